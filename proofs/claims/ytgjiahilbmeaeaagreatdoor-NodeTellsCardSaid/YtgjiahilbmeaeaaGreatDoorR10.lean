/- Joined of TyC, PsB. -/
import Derived.Test.YtgjiahilbmeaeaaGreatDoorTyB
import Derived.Test.YtgjiahilbmeaeaaGreatDoorPaC
import Derived.Test.YtgjiahilbmeaeaaGreatDoorPsA
set_option maxRecDepth 100000
set_option maxHeartbeats 8000000
set_option linter.unusedSimpArgs false
set_option linter.unusedVariables false
/- The type of an expression that has one. -/
namespace Go.Proofs.YtgjiahilbmeaeaaGreatDoor
open Go Go.RowKit
def kidsRow (ts : List Int) (j : Nat) : Array Value := #[.int .i64 (if 0 < j then ts.getD 0 0 else 0), .int .i64 (if 1 < j then ts.getD 1 0 else 0), .int .i64 (if 2 < j then ts.getD 2 0 else 0)]
theorem kidsRow_set (ts : List Int) (j : Nat) (hj : j < 3) : (kidsRow ts j).setIfInBounds j (.int .i64 (ts.getD j 0)) = kidsRow ts (j + 1) := by
 have : j = 0 ∨ j = 1 ∨ j = 2 := by omega
 rcases this with rfl | rfl | rfl <;> rfl
theorem kidsRow_all (ts : List Int) (j : Nat) (h : ts.length = j) (hj : j ≤ 3) : kidsRow ts j = #[.int .i64 (ts.getD 0 0), .int .i64 (ts.getD 1 0), .int .i64 (ts.getD 2 0)] := by
 have : j = 0 ∨ j = 1 ∨ j = 2 ∨ j = 3 := by omega
 rcases this with rfl | rfl | rfl | rfl
 ·match ts, h with
  | [], _ => rfl
 ·match ts, h with
  | [x], _ => rfl
 ·match ts, h with
  | [x, y], _ => rfl
 ·match ts, h with
  | [x, y, z], _ => rfl
theorem ofK_len : ∀ {ks : List ExprD} {names : List ByteArray} {types : List Int} {ts : List Int}, ofK ks names types = .ok ts → ts.length = ks.length
 | [], _, _, ts, h => by unfold ofK at h; simp at h; subst h; rfl
 | e :: r, _, _, ts, h => by
   obtain ⟨t, rest, rfl, _, h2⟩ := ofK_cons h
   simp [ofK_len h2]
theorem new2H (w : World) (o1 o2 : Obj) : ((w.alloc o1).alloc o2).heap[w.heap.size]? = some o1 ∧ ((w.alloc o1).alloc o2).heap[w.heap.size + 1]? = some o2 :=
 ⟨(Below.heap_alloc _ _ _ (by simp)).trans (heap_alloc_new w o1), new2K w o1 o2⟩
def MadeC : Prop := ∀ (o a b c : Int) (w : World), 1 ≤ o → o ≤ 23 → Calls Tryz.prog 196 #[.int .i64 o, .agg #[.int .i64 a, .int .i64 b, .int .i64 c]] w fun e w' => e = .returned (.int .i64 (madeT o a b c)) ∧ Keeps [] w w'
theorem tyOfR_ok (HMADE : MadeC) : ∀ (e : ExprD) (names : List ByteArray) (types : List Int) (t : Int) (a1 a2 : Option Addr) (c1 c2 n m : Nat) (cs : List Value) (P : Nat → Prop) (w : World), ExprAt w P e cs → names.length = n → types.length = m → Reads w 1 (.slice a1 n c1) n (names.map Value.string) → Reads w 1 (.slice a2 m c2) m (i64s types) → n ≤ 1000 → okE e → ofE e names types = (t, 0) →
 Calls Tryz.prog 143 #[.agg cs.toArray, .slice a1 n c1, .slice a2 m c2] w fun e w' => e = .returned (.tuple #[.int .i64 t, .int .i64 0]) ∧ Keeps [] w w'
 | .mk o nn s ks, names, types, t, a1, a2, c1, c2, n, m, cs, P, w, hat, hn, hm, hr1, hr2, hs, hok, h => by
   have IH : ∀ k ∈ ks, ∀ (names : List ByteArray) (types : List Int) (t : Int) (a1 a2 : Option Addr) (c1 c2 n m : Nat) (cs : List Value) (P : Nat → Prop) (w : World), ExprAt w P k cs → names.length = n → types.length = m → Reads w 1 (.slice a1 n c1) n (names.map Value.string) → Reads w 1 (.slice a2 m c2) m (i64s types) → n ≤ 1000 → okE k → ofE k names types = (t, 0) →
    Calls Tryz.prog 143 #[.agg cs.toArray, .slice a1 n c1, .slice a2 m c2] w fun e w' => e = .returned (.tuple #[.int .i64 t, .int .i64 0]) ∧ Keeps [] w w' := fun k hk => tyOfR_ok HMADE k
   obtain ⟨ts, hts, hend⟩ := ofE_parts h
   obtain ⟨halone, hkids, hk3⟩ := hok.parts
   obtain ⟨a, c, rfl, hls⟩ := hat.parts
   have hop := (aloneD_parts halone).2.1
   have HIH := hid IH
   have HLS := hid hls
   have HTS := hid hts
   have HEND := hid hend
   have HK := hid hkids
   have HR := hid (And.intro hr1 hr2)
   have HN := hid (And.intro hn (And.intro hm hs))
   have HOP := hid hop
   have HMA := hid HMADE
   clear IH hls hts hend hat hkids halone hok hr1 hr2 h hn hm hs hop
   go_enter Tryz.func143, Tryz.ntmps143
   go_wp2_with fail
   have hnew := new2H w (.cells #[.int .i64 o, .int .i64 nn, .string s, .slice a ks.length c] 76) (.cells #[.int .i64 0, .int .i64 0, .int .i64 0] 163)
   have HNEW := hid hnew
   have htl := ofK_len HTS.out
   have HTL := hid htl
   have HK3 := hid hk3
   clear hnew htl
   go_loopw [20] (fun iv wr => ∃ j : Nat, iv = .int .i64 (j : Int) ∧ j ≤ ks.length ∧ Hid (Keeps [] w wr ∧ wr.heap[w.heap.size]? = some (.cells #[.int .i64 o, .int .i64 nn, .string s, .slice a ks.length c] 76 (0, 0)) ∧ wr.heap[w.heap.size + 1]? = some (.cells (kidsRow ts j) 163 (0, 0)) ∧ ofK (ks.drop j) names types = .ok (ts.drop j))) (fun iv _ => ks.length - (intOf iv).toNat)
   case atStart => exact ⟨0, rfl, Nat.zero_le _, by exact Keeps.K, HNEW.out.1, HNEW.out.2, by simpa using HTS.out⟩
   case round =>
    obtain ⟨j, rfl, hj, hW⟩ := hrel
    have HW := hid hW.out
    clear hW
    have j0 : (0 : Int) ≤ (j : Int) := Int.natCast_nonneg _
    by_cases hlt : j < ks.length
    ·have i1 : (j : Int) < (ks.length : Int) := by omega
     have i3 : (j : Int) < 3 := by omega
     have hw1 : IntKind.i64.wrap ((j : Int) + 1) = (j : Int) + 1 := by rw [IntKind.wrap_i64]; omega
     obtain ⟨k0, hk0⟩ : ∃ k0, ks[j]? = some k0 := ⟨_, List.getElem?_eq_getElem hlt⟩
     have hdrop : ks.drop j = k0 :: ks.drop (j + 1) := by
      rw [List.drop_eq_getElem_cons hlt]
      rw [List.getElem?_eq_getElem hlt] at hk0
      simp at hk0
      rw [hk0]
     have hst := HW.out.2.2.2
     rw [hdrop] at hst
     obtain ⟨tj, rest, hrest, hof, hofr⟩ := ofK_cons hst
     have htj : ts.getD j 0 = tj := by
      have : (ts.drop j)[0]? = some tj := by rw [hrest]; rfl
      rw [List.getElem?_drop] at this
      rw [List.getD_eq_getElem?_getD]
      simpa using congrArg (·.getD 0) this
     have hrest2 : rest = ts.drop (j + 1) := by
      have := congrArg List.tail hrest
      simpa using this.symm
     rw [hrest2] at hofr
     have hkr := HLS.out.k HW.out.1
     obtain ⟨g, off, c', hv, hnc, _, _, _⟩ := hkr.addr (by intro e; subst e; simp at hlt)
     simp only [Value.slice.injEq] at hv
     obtain ⟨rfl, -, rfl⟩ := hv
     obtain ⟨cs, hcs, hcell⟩ := hkr.get hk0
     have hcalls := fun wx (k : Keeps [] wr wx) => HIH.out k0 (List.mem_of_getElem? hk0) names types tj a1 a2 c1 c2 n m cs P wx (ExprAt.keep k (fun _ _ => by simp) hcs) HN.out.1 HN.out.2.1 (HR.out.1.keeps (HW.out.1.trans k (fun _ _ h => h)) (fun _ _ h => by cases h)) (HR.out.2.keeps (HW.out.1.trans k (fun _ _ h => h)) (fun _ _ h => by cases h)) HN.out.2.2 (HK.out k0 (List.mem_of_getElem? hk0)) hof
     obtain ⟨o0, n0, s0, l0⟩ := k0
     obtain ⟨a9, c9, rfl, _⟩ := ExprAt.parts hcs
     have y0 : wr.cell? ⟨g, off + j * 4, none⟩ = some (.int .i64 o0) := by simpa [exprL] using hcell 0 _ rfl
     have y1 : wr.cell? ⟨g, off + j * 4 + 1, none⟩ = some (.int .i64 n0) := by simpa [exprL] using hcell 1 _ rfl
     have y2 : wr.cell? ⟨g, off + j * 4 + 2, none⟩ = some (.string s0) := by simpa [exprL] using hcell 2 _ rfl
     have y3 : wr.cell? ⟨g, off + j * 4 + 3, none⟩ = some (.slice a9 l0.length c9) := by simpa [exprL] using hcell 3 _ rfl
     have HC := hid hcalls
     have HOF := hid hofr
     have HLT := hid hlt
     have HTJ := hid htj
     clear hcs hcell hcalls hkr hdrop hst hof hofr hk0 hnc hlt hrest hrest2 htj
     go_wp2_with fail
     refine (HC.out _ (by exact Keeps.K)).mono ?_
     rintro e w4 ⟨rfl, hk4⟩
     have K4 : Hid (Keeps [] wr w4) := Keeps.trans (F := []) (G := []) (by exact Keeps.K) hk4 (fun _ _ h => h)
     have hb := (K4.out.block (w.heap.size + 1) (Array.getElem?_eq_some_iff.1 HW.out.2.2.1).1 (by simp)).trans HW.out.2.2.1
     have hbox := (K4.out.block w.heap.size (Array.getElem?_eq_some_iff.1 HW.out.2.1).1 (by simp)).trans HW.out.2.1
     have hcj : w4.cell? ⟨w.heap.size + 1, j, none⟩ = some (.int .i64 0) := by
      rw [cell_of_block hb j]
      have : j = 0 ∨ j = 1 ∨ j = 2 := by omega
      rcases this with rfl | rfl | rfl <;> rfl
     have hfj : w4.frozen? ⟨w.heap.size + 1, j, none⟩ = false := frozen_of_row w4 _ j _ _ hb
     have hset := heap_setCell_same _ _ j _ _ (.int .i64 tj) hb
     rw [← HTJ.out, kidsRow_set ts j (by omega), HTJ.out] at hset
     have HSET := hid hset
     have HBOX := hid hbox
     clear hk4 hb hset hbox
     go_wp2_with fail
     have := HLT.out
     exact ⟨⟨j + 1, rfl, by omega, (HW.out.1.trans K4.out (fun _ _ h => h)).setCell (.inr (by simp)) _, (heap_setCell_other w4 _ _ _ (by simp)).trans HBOX.out, HSET.out, HOF.out⟩, by simp [intOf]; omega⟩
    ·have i1 : (ks.length : Int) ≤ (j : Int) := by omega
     obtain rfl : j = ks.length := by omega
     have hrow := HW.out.2.2.1
     rw [kidsRow_all ts ks.length HTL.out HK3.out] at hrow
     have hb0 : wr.cell? ⟨w.heap.size, 0, none⟩ = some (.int .i64 o) := cell_of_block HW.out.2.1 0
     have hb2 : wr.cell? ⟨w.heap.size, 2, none⟩ = some (.string s) := cell_of_block HW.out.2.1 2
     obtain ⟨t0, ht0⟩ : ∃ x, ts.getD 0 0 = x := ⟨_, rfl⟩
     obtain ⟨t1, ht1⟩ : ∃ x, ts.getD 1 0 = x := ⟨_, rfl⟩
     obtain ⟨t2, ht2⟩ : ∃ x, ts.getD 2 0 = x := ⟨_, rfl⟩
     have hend := HEND.out
     rw [ht0, ht1, ht2] at hrow hend
     have r0 : wr.cell? ⟨w.heap.size + 1, 0, none⟩ = some (.int .i64 t0) := cell_of_block hrow 0
     have r1 : wr.cell? ⟨w.heap.size + 1, 1, none⟩ = some (.int .i64 t1) := cell_of_block hrow 1
     have r2 : wr.cell? ⟨w.heap.size + 1, 2, none⟩ = some (.int .i64 t2) := cell_of_block hrow 2
     clear hrow ht0 ht1 ht2
     rcases hend with ⟨rfl, hf⟩ | ⟨h4, hmt, hnz⟩
     ·have HF := hid (tyFind_ok s names types t a1 a2 c1 c2 n m wr HN.out.1 HN.out.2.1 (HR.out.1.keeps HW.out.1 (fun _ _ h => by cases h)) (HR.out.2.keeps HW.out.1 (fun _ _ h => by cases h)) HN.out.2.2 hf)
      clear hf
      go_wp2_with fail
      refine HF.out.mono ?_
      rintro e w5 ⟨rfl, hk5⟩
      have K5 : Hid (Keeps [] w w5) := HW.out.1.trans hk5 (fun _ _ h => h)
      clear hk5
      go_wp2_with fail
      refine bodyPost_ret (v := .tuple #[.int .i64 t, .int .i64 0]) (by simp [results, Tryz.results143, go_sem]) rfl ?_
      exact ⟨rfl, K5.out⟩
     ·have q4 : (o == 4) = false := by simpa using h4
      have q0 : (t == 0) = false := by simpa using hnz
      have HM := hid (HMA.out o t0 t1 t2 wr HOP.out.1 HOP.out.2)
      rw [hmt] at HM
      clear hmt hnz
      go_wp2_with fail
      refine HM.out.mono ?_
      rintro e w5 ⟨rfl, hk5⟩
      have K5 : Hid (Keeps [] w w5) := HW.out.1.trans hk5 (fun _ _ h => h)
      clear hk5
      go_wp2_with fail
      refine bodyPost_ret (v := .tuple #[.int .i64 t, .int .i64 0]) (by simp [results, Tryz.results143, go_sem]) rfl ?_
      exact ⟨rfl, K5.out⟩
termination_by e => e
decreasing_by
 have := List.sizeOf_lt_of_mem hk
 simp
 omega
def PaEnd (w : World) (p : Nat) (a : Option Addr) (c : Nat) (T : Nat → Prop) (l : List TokD) (eD : ExprD) (j : Nat) (e : Ending) (w' : World) : Prop :=
 ∃ cs, e = .returned (.agg cs.toArray) ∧ ExprAt w' (fun b => w.heap.size ≤ b) eD cs ∧ PaAt w' p a c T l j ∧ Keeps [p] w w'
def TwoC (f : Nat) : Prop := ∀ (n : Nat) (l : List TokD) (i : Nat) (eD : ExprD) (j p : Nat) (a : Option Addr) (c : Nat) (T : Nat → Prop) (w : World), n ≤ 5 → PaAt w p a c T l i → twoP f n l i = some (.ok (eD, j)) →
 Calls Tryz.prog 193 #[ptrV p, .int .i64 n] w (PaEnd w p a c T l eD j)
def OneC (f : Nat) : Prop := ∀ (l : List TokD) (i : Nat) (eD : ExprD) (j p : Nat) (a : Option Addr) (c : Nat) (T : Nat → Prop) (w : World), PaAt w p a c T l i → oneP f l i = some (.ok (eD, j)) →
 Calls Tryz.prog 231 #[ptrV p] w (PaEnd w p a c T l eD j)
def NamedC (f : Nat) : Prop := ∀ (l : List TokD) (i : Nat) (s : List UInt8) (eD : ExprD) (j p : Nat) (a : Option Addr) (c : Nat) (T : Nat → Prop) (w : World), PaAt w p a c T l i → namedP f l s i = some (.ok (eD, j)) →
 Calls Tryz.prog 267 #[ptrV p, .string (str s)] w (PaEnd w p a c T l eD j)
theorem takesP_fst (l : List TokD) (i : Nat) (sg : List (List UInt8)) : ((takesP l i sg).1 = [] ∧ (takesP l i sg).2 = i) ∨ ((takesP l i sg).1 ∈ sg ∧ (tokAt l i).kind = 4) := by
 unfold takesP
 split
 ·rename_i h
  exact .inr ⟨by simpa using h.2, h.1⟩
 ·exact .inl ⟨rfl, rfl⟩
theorem oneP_cases {f : Nat} {l : List TokD} {i : Nat} {eD : ExprD} {j : Nat} (h : oneP (f + 1) l i = some (.ok (eD, j))) :
 ((takesP l i [[45], [33], [40]]).1 = [45] ∧ ∃ k, oneP f l (takesP l i [[45], [33], [40]]).2 = some (.ok (k, j)) ∧ eD = .mk 5 0 emptyS [k]) ∨
 ((takesP l i [[45], [33], [40]]).1 = [33] ∧ ∃ k, oneP f l (takesP l i [[45], [33], [40]]).2 = some (.ok (k, j)) ∧ eD = .mk 6 0 emptyS [k]) ∨
 ((takesP l i [[45], [33], [40]]).1 = [40] ∧ ∃ j2, twoP f 0 l (takesP l i [[45], [33], [40]]).2 = some (.ok (eD, j2)) ∧ mustP l j2 [41] = .ok j) ∨
 ((takesP l i [[45], [33], [40]]).1 = [] ∧ (takesP l i [[45], [33], [40]]).2 = i ∧
   (((tokAt l i).kind = 1 ∧ eD = .mk 1 (tokAt l i).n emptyS [] ∧ j = i + 1) ∨ ((tokAt l i).kind = 2 ∧ eD = .mk 2 0 (str (tokAt l i).s) [] ∧ j = i + 1) ∨ ((tokAt l i).kind = 3 ∧ namedP f l (tokAt l i).s (i + 1) = some (.ok (eD, j))))) := by
 rw [oneP] at h
 have hc := takesP_fst l i [[45], [33], [40]]
 split at h
 ·rename_i h1
  have h1 : (takesP l i [[45], [33], [40]]).1 = [45] := by simpa using h1
  split at h <;> cases h
  exact .inl ⟨h1, _, by assumption, rfl⟩
 ·rename_i n1
  split at h
  ·rename_i h1
   have h1 : (takesP l i [[45], [33], [40]]).1 = [33] := by simpa using h1
   split at h <;> cases h
   exact .inr (.inl ⟨h1, _, by assumption, rfl⟩)
  ·rename_i n2
   split at h
   ·rename_i h1
    have h1 : (takesP l i [[45], [33], [40]]).1 = [40] := by simpa using h1
    split at h <;> try cases h
    split at h <;> cases h
    exact .inr (.inr (.inl ⟨h1, _, by assumption, by assumption⟩))
   ·rename_i n3
    have hc : (takesP l i [[45], [33], [40]]).1 = [] ∧ (takesP l i [[45], [33], [40]]).2 = i := by
     rcases hc with hc | hc
     ·exact hc
     ·exfalso
      have := hc.1
      simp at this n1 n2 n3
      simp_all
    refine .inr (.inr (.inr ⟨hc.1, hc.2, ?_⟩))
    split at h
    ·rename_i hk
     cases h
     exact .inl ⟨hk, rfl, rfl⟩
    ·split at h
     ·rename_i hk
      cases h
      exact .inr (.inl ⟨hk, rfl, rfl⟩)
     ·split at h
      ·rename_i hk
       exact .inr (.inr ⟨hk, h⟩)
      ·cases h
theorem kids_block {w : World} {P : Nat → Prop} {b k : Nat} {cs : Array Value} {css : List (List Value)} {ks : List ExprD} {fr : Nat × Nat} (hb : w.heap[b]? = some (.cells cs 76 fr)) (hcs : cs = css.flatten.toArray) (h : ElemsAt exprL w P css ks) (hP : P b) (hk : ks.length = k) (hm : k ≤ 1000) :
 ListAt exprL w P (.slice (some ⟨b, 0, none⟩) k k) ks := by
 subst hcs
 subst hk
 have hl : css.flatten.length = ks.length * 4 := by
  have h1 := h.1
  have h4 : ∀ c ∈ css, c.length = 4 := by
   intro c hc
   obtain ⟨i, hi, rfl⟩ := List.mem_iff_getElem.1 hc
   exact exprL.len (h.2 i _ _ (List.getElem?_eq_getElem hi) (List.getElem?_eq_getElem (h1 ▸ hi)))
  rw [List.length_flatten, List.map_congr_left (g := fun _ => 4) h4, ← h1]
  clear h4 h1 h hb
  induction css with
  | nil => rfl
  | cons x r ih => simp at ih ⊢; omega
 have hr := Reads.ofBlock (size := 4) (n := ks.length) hb (by simpa using hl) (Nat.le_trans hm (by decide))
 refine ⟨css, h, by rw [List.toList_toArray] at hr; exact hr, fun _ x hx => ?_⟩
 rename_i h0
 cases ks with
 | nil => exact absurd rfl h0
 | cons e r =>
   have h1 := mem_ownB.1 hx
   simp [Value.ownBlock] at h1
   exact h1 ▸ hP
theorem zexpr {w : World} {b : Nat} {v0 v1 v2 v3 : Value} (h : w.heap[b]? = some (.cells #[v0, v1, v2, v3] 76 (0, 0))) :
 b < w.heap.size ∧ w.cell? ⟨b, 0, none⟩ = some v0 ∧ w.cell? ⟨b, 1, none⟩ = some v1 ∧ w.cell? ⟨b, 2, none⟩ = some v2 ∧ w.cell? ⟨b, 3, none⟩ = some v3 ∧
   w.frozen? ⟨b, 0, none⟩ = false ∧ w.frozen? ⟨b, 1, none⟩ = false ∧ w.frozen? ⟨b, 2, none⟩ = false ∧ w.frozen? ⟨b, 3, none⟩ = false :=
 ⟨(Array.getElem?_eq_some_iff.1 h).1, cell_of_block h 0, cell_of_block h 1, cell_of_block h 2, cell_of_block h 3, frozen_of_row w _ 0 _ _ h, frozen_of_row w _ 1 _ _ h, frozen_of_row w _ 2 _ _ h, frozen_of_row w _ 3 _ _ h⟩
theorem results_expr {fn : Func} {k : Nat} (hr : fn.results = #[.cell k 76]) {tmps : Array Value} {W : World} {b : Nat} {v0 v1 v2 v3 : Value} (ht : tmps.getD k undef = .pointer (some ⟨b, 0, none⟩)) (h : W.heap[b]? = some (.cells #[v0, v1, v2, v3] 76 (0, 0))) :
 (results fn tmps).run Tryz.prog W = .ok (.agg #[v0, v1, v2, v3]) W := by
 obtain ⟨b0, e0, e1, e2, e3, f0, f1, f2, f3⟩ := zexpr h
 clear h
 rw [Array.getD_eq_getD_getElem?] at ht
 simp [results, hr, ht, go_sem, e0, e1, e2, e3]
theorem alloc_old {w : World} {o o2 : Obj} {b : Nat} (h : w.heap[b]? = some o) : (w.alloc o2).heap[b]? = some o := (Below.heap_alloc _ _ _ (Array.getElem?_eq_some_iff.1 h).1).trans h
theorem paEnd_of {w w2 wz : World} {p : Nat} {a : Option Addr} {c : Nat} {T : Nat → Prop} {l : List TokD} {i j : Nat} {eD : ExprD} {cs : List Value} (h : PaAt w p a c T l i) (K2 : Keeps [p] w w2) (h2 : PaAt w2 p a c T l j) (k4 : Keeps [w.heap.size] w2 wz) (hx : ExprAt wz (fun b => w.heap.size ≤ b) eD cs) :
 PaEnd w p a c T l eD j (.returned (.agg cs.toArray)) wz := by
 have hp := (Array.getElem?_eq_some_iff.1 h.2.2.1).1
 have K := K2.trans k4 (fun b hb hm => by simp at hm; omega)
 refine ⟨cs, rfl, hx, ⟨h.1.keep K (fun b hb e => h.2.1 (by simp at e; exact e ▸ hb)), h.2.1, (k4.block p (Nat.lt_of_lt_of_le hp K2.size) (by simp; omega)).trans h2.2.2.1, h.2.2.2.1, h2.2.2.2.2⟩, K⟩
theorem set4 {w : World} {b : Nat} {u0 u1 u2 u3 : Value} (h : w.heap[b]? = some (.cells #[u0, u1, u2, u3] 76 (0, 0))) (v0 v1 v2 v3 : Value) :
 ((((w.setCell ⟨b, 0, none⟩ v0).setCell ⟨b, 1, none⟩ v1).setCell ⟨b, 2, none⟩ v2).setCell ⟨b, 3, none⟩ v3).heap[b]? = some (.cells #[v0, v1, v2, v3] 76 (0, 0)) := by
 have h0 := heap_setCell_same w b 0 _ _ v0 h
 have h1 := heap_setCell_same _ b 1 _ _ v1 h0
 have h2 := heap_setCell_same _ b 2 _ _ v2 h1
 have h3 := heap_setCell_same _ b 3 _ _ v3 h2
 rw [h3]
 rfl
theorem exprAt_one {w : World} {P : Nat → Prop} {o n : Int} {s : ByteArray} {k : ExprD} {b : Nat} {v0 v1 v2 v3 : Value} {fr : Nat × Nat} (hb : w.heap[b]? = some (.cells #[v0, v1, v2, v3] 76 fr)) (h : ExprAt w P k [v0, v1, v2, v3]) (hP : P b) :
 ExprAt w P (.mk o n s [k]) [.int .i64 o, .int .i64 n, .string s, .slice (some ⟨b, 0, none⟩) 1 1] :=
 ExprAt.of (ks := [k]) (kids_block hb (css := [[v0, v1, v2, v3]]) rfl (ElemsAt.one1 h) hP rfl (by decide))
def sets4 (w : World) (b : Nat) (v0 v1 v2 v3 : Value) : World := (((w.setCell ⟨b, 0, none⟩ v0).setCell ⟨b, 1, none⟩ v1).setCell ⟨b, 2, none⟩ v2).setCell ⟨b, 3, none⟩ v3
theorem sets4_size (w : World) (b : Nat) (v0 v1 v2 v3 : Value) : (sets4 w b v0 v1 v2 v3).heap.size = w.heap.size := by simp [sets4]
theorem sets4_keeps (w : World) (b : Nat) (v0 v1 v2 v3 : Value) : Keeps [b] w (sets4 w b v0 v1 v2 v3) := by
 unfold sets4
 exact Keeps.K
theorem alloc_sets4 (w : World) (b : Nat) (v0 v1 v2 v3 : Value) (o : Obj) : ((sets4 w b v0 v1 v2 v3).alloc o).heap[w.heap.size]? = some o := by
 have h := heap_alloc_new (sets4 w b v0 v1 v2 v3) o
 rw [sets4_size] at h
 exact h
theorem paEnd_one {w w2 : World} {p : Nat} {a : Option Addr} {c : Nat} {T : Nat → Prop} {l : List TokD} {i j : Nat} {o n : Int} {s : ByteArray} {k : ExprD} {v0 v1 v2 v3 : Value} {B : Nat} (h : PaAt w p a c T l i) (K2 : Keeps [p] w w2) (h2 : PaAt w2 p a c T l j) (hB : w.heap.size < B) (hx : ExprAt w2 (fun b => B ≤ b) k [v0, v1, v2, v3]) :
 PaEnd w p a c T l (.mk o n s [k]) j (.returned (.agg #[.int .i64 o, .int .i64 n, .string s, .slice (some ⟨w2.heap.size, 0, none⟩) 1 1])) ((sets4 w2 w.heap.size (.int .i64 o) (.int .i64 n) (.string s) (.slice (some ⟨w2.heap.size, 0, none⟩) 1 1)).alloc (.cells #[v0, v1, v2, v3] 76)) := by
 have k4 := (sets4_keeps w2 w.heap.size (.int .i64 o) (.int .i64 n) (.string s) (.slice (some ⟨w2.heap.size, 0, none⟩) 1 1)).alloc (.cells #[v0, v1, v2, v3] 76)
 refine paEnd_of (cs := [.int .i64 o, .int .i64 n, .string s, .slice (some ⟨w2.heap.size, 0, none⟩) 1 1]) h K2 h2 k4 (exprAt_one (alloc_sets4 _ _ _ _ _ _ _) (ExprAt.mono (fun b _ hb => Nat.le_of_lt (Nat.lt_of_lt_of_le hB hb)) (ExprAt.keep k4 (fun b hb e => ?_) hx)) K2.size)
 simp at e
 omega
theorem paEnd_leaf {w w2 wz : World} {p : Nat} {a : Option Addr} {c : Nat} {T : Nat → Prop} {l : List TokD} {i j : Nat} {o n : Int} {s : ByteArray} {eD : ExprD} (h : PaAt w p a c T l i) (K2 : Keeps [p] w w2) (h2 : PaAt w2 p a c T l j) (k4 : Keeps [w.heap.size] w2 wz) (he : eD = .mk o n s []) :
 PaEnd w p a c T l eD j (.returned (.agg #[.int .i64 o, .int .i64 n, .string s, .slice none 0 0])) wz := by
 subst he
 exact paEnd_of (cs := [.int .i64 o, .int .i64 n, .string s, .slice none 0 0]) h K2 h2 k4 (ExprAt.of (ks := []) (ListAt.nil _ _ none 0))
theorem paOne_step (f : Nat) (HO : OneC f) (HTW : TwoC f) (HNA : NamedC f) : OneC (f + 1) := by
 intro l i eD j p a c T w h hp
 have HC := hid (oneP_cases hp)
 have HP := hid h
 have HH := hid (And.intro HO (And.intro HTW HNA))
 have HT := hid (fun wx a1 c1 hr hx => paTakes_any [[45], [33], [40]] a1 3 c1 p i c a T l wx hr rfl (by decide) hx)
 have hpw := (Array.getElem?_eq_some_iff.1 h.2.2.1).1
 clear hp h HO HTW HNA
 unfold ptrV at HT ⊢
 go_enter Tryz.func231, Tryz.ntmps231
 go_wp2_with fail
 have hn := new2H w (.cells #[.int .i64 0, .int .i64 0, .string ⟨#[]⟩, .slice none 0 0] 76) (.cells #[.string ⟨#[45]⟩, .string ⟨#[33]⟩, .string ⟨#[40]⟩] 9)
 refine (HT.out _ _ _ (Reads.ofBlock (n := 3) hn.2 rfl (by decide)) (HP.out.k (by exact Keeps.K))).mono ?_
 rintro e w1 ⟨rfl, hp1, hk1⟩
 have HB := hid ((hk1.block w.heap.size (Array.getElem?_eq_some_iff.1 hn.1).1 (by simp; omega)).trans hn.1)
 have K1 : Hid (Keeps [p] w w1) := Keeps.trans (F := [p]) (G := [p]) (by exact Keeps.K) hk1 (fun _ _ h => h)
 have HP1 := hid hp1
 clear hp1 hk1 hn
 rcases HC.out with ⟨h1, k, h2, h3⟩ | ⟨h1, k, h2, h3⟩ | ⟨h1, j2, h2, h3⟩ | ⟨h1, h2, h3⟩
 ·rw [h1]
  have HX := hid (And.intro h2 h3)
  have hcs := HH.out.1 _ _ _ _ _ _ _ _ _ HP1.out h2
  have HCS := hid hcs
  unfold ptrV at HCS
  clear h1 h2 h3 hcs
  go_wp2_with fail
  refine HCS.out.mono ?_
  rintro e w2 ⟨cs, rfl, hx2, hp2, hk2⟩
  have HB2 := hid ((hk2.block w.heap.size (Array.getElem?_eq_some_iff.1 HB.out).1 (by simp; omega)).trans HB.out)
  obtain ⟨o0, n0, s0, l0⟩ := k
  obtain ⟨a9, c9, rfl, hls⟩ := ExprAt.parts hx2
  have HX2 := hid hx2
  have HP2 := hid hp2
  have K2 := hid (K1.out.trans hk2 (fun _ _ h => h))
  clear hx2 hp2 hk2 hls
  obtain ⟨b0, e0, e1, e2, e3, f0, f1, f2, f3⟩ := zexpr HB2.out
  go_wp2_with fail
  have h4 := set4 HB2.out (.int .i64 5) (.int .i64 0) (.string ⟨#[]⟩) (.slice (some ⟨w2.heap.size, 0, none⟩) 1 1)
  refine bodyPost_ret (results_expr Tryz.results231 rfl (alloc_old h4)) rfl ?_
  rw [HX.out.2]
  exact paEnd_one HP.out K2.out HP2.out (Array.getElem?_eq_some_iff.1 HB.out).1 HX2.out
 ·rw [h1]
  have HX := hid (And.intro h2 h3)
  have hcs := HH.out.1 _ _ _ _ _ _ _ _ _ HP1.out h2
  have HCS := hid hcs
  unfold ptrV at HCS
  clear h1 h2 h3 hcs
  go_wp2_with fail
  refine HCS.out.mono ?_
  rintro e w2 ⟨cs, rfl, hx2, hp2, hk2⟩
  have HB2 := hid ((hk2.block w.heap.size (Array.getElem?_eq_some_iff.1 HB.out).1 (by simp; omega)).trans HB.out)
  obtain ⟨o0, n0, s0, l0⟩ := k
  obtain ⟨a9, c9, rfl, hls⟩ := ExprAt.parts hx2
  have HX2 := hid hx2
  have HP2 := hid hp2
  have K2 := hid (K1.out.trans hk2 (fun _ _ h => h))
  clear hx2 hp2 hk2 hls
  obtain ⟨b0, e0, e1, e2, e3, f0, f1, f2, f3⟩ := zexpr HB2.out
  go_wp2_with fail
  have h4 := set4 HB2.out (.int .i64 6) (.int .i64 0) (.string ⟨#[]⟩) (.slice (some ⟨w2.heap.size, 0, none⟩) 1 1)
  refine bodyPost_ret (results_expr Tryz.results231 rfl (alloc_old h4)) rfl ?_
  rw [HX.out.2]
  exact paEnd_one HP.out K2.out HP2.out (Array.getElem?_eq_some_iff.1 HB.out).1 HX2.out
 ·rw [h1]
  have HX := hid h3
  have hcs : Calls Tryz.prog 193 #[.pointer (some ⟨p, 0, none⟩), .int .i64 0] w1 (PaEnd w1 p a c T l eD j2) := HH.out.2.1 0 _ _ _ _ _ _ _ _ _ (by decide) HP1.out h2
  have HCS := hid hcs
  clear h1 h2 h3 hcs
  go_wp2_with fail
  refine HCS.out.mono ?_
  rintro e w2 ⟨cs, rfl, hx2, hp2, hk2⟩
  have HB2 := hid ((hk2.block w.heap.size (Array.getElem?_eq_some_iff.1 HB.out).1 (by simp; omega)).trans HB.out)
  obtain ⟨o0, n0, s0, l0⟩ := eD
  obtain ⟨a9, c9, rfl, hls⟩ := ExprAt.parts hx2
  have HX2 := hid hx2
  have HP2 := hid hp2
  have K2 := hid (K1.out.trans hk2 (fun _ _ h => h))
  have hmu := fun wx (kx : Keeps [] w2 wx) => paMust_ok [41] p j2 c j a T l wx (HP2.out.k kx) HX.out (by decide)
  unfold ptrV at hmu
  have HMU := hid hmu
  clear hx2 hp2 hk2 hls hmu
  go_wp2_with fail
  have hn2 := heap_alloc_new w2 (.cells #[.int .i64 o0, .int .i64 n0, .string s0, .slice a9 l0.length c9] 76)
  refine (HMU.out _ (by exact Keeps.K)).mono ?_
  rintro e w3 ⟨rfl, hp3, hk3⟩
  have hB3 := (hk3.block w.heap.size (Array.getElem?_eq_some_iff.1 (alloc_old HB2.out)).1 (by simp; omega)).trans (alloc_old HB2.out)
  have hE3 := (hk3.block w2.heap.size (Array.getElem?_eq_some_iff.1 hn2).1 (by have := K2.out.size; simp; omega)).trans hn2
  have K3 := hid (((Keeps.refl [p] w2).alloc (.cells #[.int .i64 o0, .int .i64 n0, .string s0, .slice a9 l0.length c9] 76)).trans hk3 (fun _ _ h => h))
  have HP3 := hid hp3
  have HB3 := hid hB3
  obtain ⟨b0, e0, e1, e2, e3, f0, f1, f2, f3⟩ := zexpr hB3
  obtain ⟨d0, g0, g1, g2, g3, -, -, -, -⟩ := zexpr hE3
  clear hB3 hE3 hp3 hk3 hn2
  go_wp2_with fail
  have h4 := set4 HB3.out (.int .i64 o0) (.int .i64 n0) (.string s0) (.slice a9 l0.length c9)
  refine bodyPost_ret (results_expr Tryz.results231 rfl h4) rfl ?_
  have k4 := sets4_keeps w3 w.heap.size (.int .i64 o0) (.int .i64 n0) (.string s0) (.slice a9 l0.length c9)
  refine paEnd_of HP.out (K2.out.trans K3.out (fun _ _ h => h)) HP3.out k4 (ExprAt.mono (fun b _ hb => Nat.le_trans K1.out.size hb) (ExprAt.keep k4 (fun b hb e => ?_) (ExprAt.keep K3.out (fun b hb e => ?_) HX2.out)))
  ·simp at e
   have := (Array.getElem?_eq_some_iff.1 HB.out).1
   omega
  ·simp at e
   have := K1.out.size
   omega
 ·rw [h1]
  rw [h2] at HP1
  obtain ⟨g, off, t, rfl, ht, htk, hgp, hg, hp, x0, x1, y0, y1, y2, y3⟩ := HP1.out.cells
  rw [htk] at h3
  have HX := hid h3
  have HTK := hid htk
  have i0 : (0 : Int) ≤ (i : Int) := Int.natCast_nonneg _
  have i1 : (i : Int) < (l.length : Int) := by have := HP1.out.2.2.2.2; omega
  have hl1 := HP1.out.2.2.2.1.1
  have hw1 : IntKind.i64.wrap ((i : Int) + 1) = (i : Int) + 1 := by rw [IntKind.wrap_i64]; omega
  have zb := HP1.out.2.2.1
  have hfz : w1.frozen? ⟨p, 1, none⟩ = false := frozen_of_row w1 _ 1 _ _ zb
  obtain ⟨b0, e0, e1, e2, e3, f0, f1, f2, f3⟩ := zexpr HB.out
  clear h1 h2 h3 ht htk hgp zb
  go_wp2_with fail
  refine Plan.wp_region_plan (fun wx => wx.cell? ⟨p, 0, none⟩ = some (.slice (some ⟨g, off, none⟩) l.length c) ∧ wx.cell? ⟨p, 1, none⟩ = some (.int .i64 i) ∧ wx.cell? ⟨g, off + i * 4, none⟩ = some (.int .i64 t.kind) ∧ wx.cell? ⟨g, off + i * 4 + 1, none⟩ = some (.string (str t.s)) ∧ wx.cell? ⟨g, off + i * 4 + 2, none⟩ = some (.int .i64 t.n) ∧ wx.cell? ⟨g, off + i * 4 + 3, none⟩ = some (.int .i64 t.at_)) 11 [(true, 0), (true, 1), (true, 2), (true, 3), (true, 4), (true, 5), (true, 6), (true, 7), (true, 8), (true, 9), (false, 10)] (by kernel_rfl) (by as_aux_lemma => kernel_rfl) (by kernel_rfl) (fun _ _ _ _ _ h => h) ?_ (fun hS => ?_)
  (·go_simp)
  simp only [Plan.pick, List.append_eq, List.cons_append, List.nil_append, Plan.g1, Plan.g2, Option.getD_some, List.drop_succ_cons, List.drop_zero]
  iterate 10 (first | refine Plan.tA ?_ | refine Plan.tY ?_ | refine Plan.pN ?_ | refine Plan.pU ?_ | fail)
  refine Plan.step ?_
  go_wp2_with fail
  refine ⟨by go_simp, ?_⟩
  refine Plan.fin ?_
  clear hS
  rcases HX.out with ⟨q1, q2, q3⟩ | ⟨q1, q2, q3⟩ | ⟨q1, q2⟩
  ·have HQ := hid (And.intro q2 q3)
   have HST := hid (HP1.out.step (by rw [HTK.out, q1]; decide))
   have HBS := hid ((heap_setCell_other w1 ⟨p, 1, none⟩ w.heap.size (.int .i64 ((i : Int) + 1)) (Nat.ne_of_gt hpw)).trans HB.out)
   clear q2 q3
   go_wp2_with fail
   have h4 := set4 HBS.out (.int .i64 1) (.int .i64 t.n) (.string ⟨#[]⟩) (.slice none 0 0)
   refine bodyPost_ret (results_expr Tryz.results231 rfl (alloc_old h4)) rfl ?_
   rw [HQ.out.2]
   exact paEnd_leaf HP.out (K1.out.setCell (.inl (by simp)) _) HST.out (((sets4_keeps _ w.heap.size (.int .i64 1) (.int .i64 t.n) (.string ⟨#[]⟩) (.slice none 0 0)).alloc _).drew) HQ.out.1
  ·have HQ := hid (And.intro q2 q3)
   have HST := hid (HP1.out.step (by rw [HTK.out, q1]; decide))
   have HBS := hid ((heap_setCell_other w1 ⟨p, 1, none⟩ w.heap.size (.int .i64 ((i : Int) + 1)) (Nat.ne_of_gt hpw)).trans HB.out)
   clear q2 q3
   go_wp2_with fail
   have h4 := set4 HBS.out (.int .i64 2) (.int .i64 0) (.string (str t.s)) (.slice none 0 0)
   refine bodyPost_ret (results_expr Tryz.results231 rfl (alloc_old h4)) rfl ?_
   rw [HQ.out.2]
   exact paEnd_leaf HP.out (K1.out.setCell (.inl (by simp)) _) HST.out (((sets4_keeps _ w.heap.size (.int .i64 2) (.int .i64 0) (.string (str t.s)) (.slice none 0 0)).alloc _).drew) HQ.out.1
  ·have HST := hid (HP1.out.step (by rw [HTK.out, q1]; decide))
   have HBS := hid ((heap_setCell_other w1 ⟨p, 1, none⟩ w.heap.size (.int .i64 ((i : Int) + 1)) (Nat.ne_of_gt hpw)).trans HB.out)
   have hcs := fun wx (kx : Keeps [] (w1.setCell ⟨p, 1, none⟩ (.int .i64 ((i : Int) + 1))) wx) => HH.out.2.2 l (i + 1) t.s eD j p _ c T wx (HST.out.k kx) q2
   unfold ptrV at hcs
   have HCS := hid hcs
   clear q2 hcs
   go_wp2_with fail
   have K2 := hid (Keeps.drew (Keeps.alloc (Keeps.refl [] (w1.setCell ⟨p, 1, none⟩ (.int .i64 ((i : Int) + 1)))) (.cells #[.int .i64 3, .string (str t.s), .int .i64 t.n, .int .i64 t.at_] 151)))
   refine (HCS.out _ K2.out).mono ?_
   rintro e w4 ⟨cs, rfl, hx4, hp4, hk4⟩
   have k24 := (K2.out.mono (G := [p]) (by simp)).trans hk4 (fun _ _ h => h)
   have k14 := ((Keeps.refl [p] w1).setCell (p := ⟨p, 1, none⟩) (.inl (by simp)) (.int .i64 ((i : Int) + 1))).trans k24 (fun _ _ h => h)
   have HB4 := hid ((k14.block w.heap.size (Array.getElem?_eq_some_iff.1 HB.out).1 (by simp; omega)).trans HB.out)
   have hlt1 := (Array.getElem?_eq_some_iff.1 HB.out).1
   obtain ⟨o0, n0, s0, l0⟩ := eD
   obtain ⟨a9, c9, rfl, hls⟩ := ExprAt.parts hx4
   have HX4 := hid (ExprAt.mono (P' := fun b => w.heap.size + 1 ≤ b) (fun b _ hb => Nat.le_trans (by have := K2.out.size; rw [World.size_setCell] at this; omega) hb) hx4)
   have HP4 := hid hp4
   have K14 := hid (K1.out.trans k14 (fun _ _ h => h))
   obtain ⟨-, a0, a1, a2, a3, h0, h1, h2, h3⟩ := zexpr HB4.out
   have b4 := (Array.getElem?_eq_some_iff.1 HB4.out).1
   clear b0 e0 e1 e2 e3 f0 f1 f2 f3 hx4 hp4 hk4 k24 k14 hls y0 y1 y2 y3 x0 x1
   go_wp2_with fail
   have h4 := set4 HB4.out (.int .i64 o0) (.int .i64 n0) (.string s0) (.slice a9 l0.length c9)
   refine bodyPost_ret (results_expr Tryz.results231 rfl h4) rfl ?_
   have k4 := sets4_keeps w4 w.heap.size (.int .i64 o0) (.int .i64 n0) (.string s0) (.slice a9 l0.length c9)
   refine paEnd_of HP.out K14.out HP4.out k4 (ExprAt.mono (fun b _ hb => Nat.le_of_succ_le hb) (ExprAt.keep k4 (fun b hb e => ?_) HX4.out))
   simp at e
   omega
end Go.Proofs.YtgjiahilbmeaeaaGreatDoor