/- The parser: signs, levels, words. -/
import Derived.Test.YtgjiahilbmeaeaaGreatDoorR06
import Derived.Test.YtgjiahilbmeaeaaGreatDoorR04
import Derived.Test.YtgjiahilbmeaeaaGreatDoorR07
set_option maxRecDepth 100000
set_option maxHeartbeats 8000000
set_option linter.unusedSimpArgs false
set_option linter.unusedVariables false
namespace Go.Proofs.YtgjiahilbmeaeaaGreatDoor
open Go Go.RowKit
def EndsL (l : List TokD) : Prop := l.length ≤ 1000 ∧ (tokAt l (l.length - 1)).kind = 0
def PaAt (w : World) (p : Nat) (a : Option Addr) (c : Nat) (T : Nat → Prop) (l : List TokD) (i : Nat) : Prop :=
 ListAt tokL w T (.slice a l.length c) l ∧ ¬ T p ∧ w.heap[p]? = some (.cells #[.slice a l.length c, .int .i64 i] 296 (0, 0)) ∧ EndsL l ∧ i < l.length
theorem PaAt.next {w : World} {p : Nat} {a : Option Addr} {c : Nat} {T : Nat → Prop} {l : List TokD} {i : Nat} (h : PaAt w p a c T l i) (hk : (tokAt l i).kind ≠ 0) : i + 1 < l.length := by
 have h1 := h.2.2.2.1.2
 have h2 := h.2.2.2.2
 by_cases hi : i + 1 < l.length
 ·exact hi
 ·have : i = l.length - 1 := by omega
  rw [this] at hk
  exact absurd h1 hk
theorem PaAt.k {w w' : World} {p : Nat} {a : Option Addr} {c : Nat} {T : Nat → Prop} {l : List TokD} {i : Nat} (h : PaAt w p a c T l i) (k : Keeps [] w w') : PaAt w' p a c T l i := by
 obtain ⟨h1, h2, h3, h4, h5⟩ := h
 exact ⟨h1.k k, h2, (k.block p (Array.getElem?_eq_some_iff.1 h3).1 (by simp)).trans h3, h4, h5⟩
theorem PaAt.cells {w : World} {p : Nat} {a : Option Addr} {c : Nat} {T : Nat → Prop} {l : List TokD} {i : Nat} (h : PaAt w p a c T l i) :
 ∃ g off t, a = some ⟨g, off, none⟩ ∧ l[i]? = some t ∧ tokAt l i = t ∧ g ≠ p ∧ g < w.heap.size ∧ p < w.heap.size ∧ w.cell? ⟨p, 0, none⟩ = some (.slice a l.length c) ∧ w.cell? ⟨p, 1, none⟩ = some (.int .i64 i) ∧
   w.cell? ⟨g, off + i * 4, none⟩ = some (.int .i64 t.kind) ∧ w.cell? ⟨g, off + i * 4 + 1, none⟩ = some (.string (str t.s)) ∧ w.cell? ⟨g, off + i * 4 + 2, none⟩ = some (.int .i64 t.n) ∧ w.cell? ⟨g, off + i * 4 + 3, none⟩ = some (.int .i64 t.at_) := by
 obtain ⟨h1, h2, h3, h4, h5⟩ := h
 obtain ⟨g, off, c', hv, hnc, hm, hg, hT⟩ := h1.addr (by intro e; subst e; simp at h5)
 simp only [Value.slice.injEq] at hv
 obtain ⟨rfl, -, rfl⟩ := hv
 obtain ⟨t, ht⟩ : ∃ t, l[i]? = some t := ⟨_, List.getElem?_eq_getElem h5⟩
 obtain ⟨cs, hcs, hcell⟩ := h1.get ht
 have hcs : cs = tokC t := hcs
 subst hcs
 refine ⟨g, off, t, rfl, ht, by simp [tokAt, List.getD_eq_getElem?_getD, ht], fun e => h2 (e ▸ hT), hg, (Array.getElem?_eq_some_iff.1 h3).1, cell_of_block h3 0, cell_of_block h3 1, ?_, ?_, ?_, ?_⟩
 ·exact hcell 0 _ rfl
 ·exact hcell 1 _ rfl
 ·exact hcell 2 _ rfl
 ·exact hcell 3 _ rfl
theorem PaAt.step {w : World} {p : Nat} {a : Option Addr} {c : Nat} {T : Nat → Prop} {l : List TokD} {i : Nat} (h : PaAt w p a c T l i) (hk : (tokAt l i).kind ≠ 0) : PaAt (w.setCell ⟨p, 1, none⟩ (.int .i64 ((i : Int) + 1))) p a c T l (i + 1) := by
 have hn := h.next hk
 obtain ⟨h1, h2, h3, h4, h5⟩ := h
 have hset := heap_setCell_same w p 1 _ _ (.int .i64 ((i : Int) + 1)) h3
 refine ⟨h1.keep (G := [p]) ((Keeps.refl [p] w).setCell (.inl (by simp)) _) (fun b hb e => h2 (by simp at e; exact e ▸ hb)), h2, ?_, h4, hn⟩
 rw [hset]
 simp
theorem paTakes_any (sg : List (List UInt8)) (a1 : Option Addr) (m c1 p i c : Nat) (a : Option Addr) (T : Nat → Prop) (l : List TokD) (w : World) (hr : Reads w 1 (.slice a1 m c1) m (sg.map fun s => Value.string (str s))) (hm : sg.length = m) (hm6 : m ≤ 1000) (h : PaAt w p a c T l i) :
 Calls Tryz.prog 232 #[ptrV p, .slice a1 m c1] w fun e w' => e = .returned (.string (str (takesP l i sg).1)) ∧ PaAt w' p a c T l (takesP l i sg).2 ∧ Keeps [p] w w' := by
 have HP := hid h
 obtain ⟨g, off, t, rfl, ht, htk, hgp, hg, hp, x0, x1, y0, y1, y2, y3⟩ := h.cells
 have htp : takesP l i sg = if t.kind = 4 ∧ sg.contains t.s = true then (t.s, i + 1) else ([], i) := by
  unfold takesP
  rw [htk]
 have HR := hid hr
 have HM := hid hm
 have HTP := hid htp
 have i0 : (0 : Int) ≤ (i : Int) := Int.natCast_nonneg _
 have i1 : (i : Int) < (l.length : Int) := by have := h.2.2.2.2; omega
 have HTK := hid htk
 have hl1 := h.2.2.2.1.1
 clear htp hr hm h ht htk hgp
 unfold ptrV
 go_enter Tryz.func232, Tryz.ntmps232
 go_wp2_with fail
 refine Plan.wp_region_plan (fun wx => wx.cell? ⟨p, 0, none⟩ = some (.slice (some ⟨g, off, none⟩) l.length c) ∧ wx.cell? ⟨p, 1, none⟩ = some (.int .i64 i) ∧ wx.cell? ⟨g, off + i * 4, none⟩ = some (.int .i64 t.kind) ∧ wx.cell? ⟨g, off + i * 4 + 1, none⟩ = some (.string (str t.s)) ∧ wx.cell? ⟨g, off + i * 4 + 2, none⟩ = some (.int .i64 t.n) ∧ wx.cell? ⟨g, off + i * 4 + 3, none⟩ = some (.int .i64 t.at_)) 11 [(true, 0), (true, 1), (true, 2), (true, 3), (true, 4), (true, 5), (true, 6), (true, 7), (true, 8), (true, 9), (false, 10)] (by kernel_rfl) (by as_aux_lemma => kernel_rfl) (by kernel_rfl) (fun _ _ _ _ _ h => h) ?_ (fun hS => ?_)
 (·go_simp)
 simp only [Plan.pick, List.append_eq, List.cons_append, List.nil_append, Plan.g1, Plan.g2, Option.getD_some, List.drop_succ_cons, List.drop_zero]
 iterate 10 (first | refine Plan.tA ?_ | refine Plan.tY ?_ | refine Plan.pN ?_ | refine Plan.pU ?_ | fail)
 refine Plan.step ?_
 go_wp2_with fail
 refine ⟨by go_simp, ?_⟩
 refine Plan.fin ?_
 clear hS
 go_wp2_with fail
 go_loopw [7, 20] (fun _ iv wr => ∃ k : Nat, iv = .int .i64 (k : Int) ∧ k ≤ m ∧ Hid (Keeps [] w wr ∧ wr.heap[w.heap.size]? = some (.cells (tokC t).toArray 151 (0, 0)) ∧ (t.kind = 4 → t.s ∉ sg.take k))) (fun _ iv _ => m - (intOf iv).toNat)
 case atStart => exact ⟨0, rfl, Nat.zero_le _, by exact Keeps.K, heap_alloc_new w _, by simp⟩
 case round =>
  obtain ⟨k, rfl, hk, hW⟩ := hrel
  have HW := hid hW.out
  clear hW
  have j0 : (0 : Int) ≤ (k : Int) := Int.natCast_nonneg _
  have t0 : wr.cell? ⟨w.heap.size, 0, none⟩ = some (.int .i64 t.kind) := cell_of_block HW.out.2.1 0
  have t1 : wr.cell? ⟨w.heap.size, 1, none⟩ = some (.string (str t.s)) := cell_of_block HW.out.2.1 1
  have z1 : wr.cell? ⟨p, 1, none⟩ = some (.int .i64 i) := HW.out.1.cellSome x1 (by simp)
  have zb : wr.heap[p]? = some (.cells #[.slice (some ⟨g, off, none⟩) l.length c, .int .i64 i] 296 (0, 0)) := (HW.out.1.block p hp (by simp)).trans HP.out.2.2.1
  have hpw : p < wr.heap.size := (Array.getElem?_eq_some_iff.1 zb).1
  have hfz : wr.frozen? ⟨p, 1, none⟩ = false := frozen_of_row wr _ 1 _ _ zb
  have hw1 : IntKind.i64.wrap ((i : Int) + 1) = (i : Int) + 1 := by rw [IntKind.wrap_i64]; omega
  have hw2 : IntKind.i64.wrap ((k : Int) + 1) = (k : Int) + 1 := by rw [IntKind.wrap_i64]; omega
  by_cases hlt : k < m
  ·have k1 : (k : Int) < (m : Int) := by omega
   obtain ⟨s, hs⟩ : ∃ s, sg[k]? = some s := ⟨_, List.getElem?_eq_getElem (by rw [HM.out]; exact hlt)⟩
   have hrd : Reads wr 1 (.slice a1 m c1) m (sg.map fun s => Value.string (str s)) := HR.out.keeps HW.out.1 (fun _ _ h => by cases h)
   obtain ⟨ad, rfl, had⟩ := hrd.src (by rw [List.length_map, HM.out]; omega)
   obtain ⟨gs, os, he⟩ : ∃ gs os, ad = ⟨gs, os, none⟩ := by
    rcases hrd.2 with ⟨h0, _⟩ | ⟨_, g, off, c', e, _, _, _, hx⟩
    ·omega
    ·simp only [Value.slice.injEq, Option.some.injEq] at e
     exact ⟨g, off, e.1⟩
   subst he
   have v0 : wr.cell? ⟨gs, os + k, none⟩ = some (.string (str s)) := by { have h0 := had k (.string (str s)) (by rw [List.getElem?_map, hs]; rfl); unfold Addr.add at h0; split at h0 <;> rename_i h1; subst h1; exact h0; exact h0 }
   have htake : sg.take (k + 1) = sg.take k ++ [s] := by rw [List.take_add_one, hs]; rfl
   have HTA := hid htake
   have HSM := hid (List.mem_of_getElem? hs)
   clear hrd had hs htake
   by_cases h4 : t.kind = 4
   ·by_cases hse : t.s = s
    ·have HST : Hid (takesP l i sg = (s, i + 1)) := by
      rw [HTP.out, if_pos ⟨h4, by rw [hse]; simpa using HSM.out⟩, hse]; exact rfl
     have HSP := hid (PaAt.step (HP.out.k HW.out.1) (by rw [HTK.out, h4]; decide))
     rw [h4] at t0
     rw [hse] at t1
     have HS4 := hid h4
     clear h4 hse
     go_wp2_with fail
     go_ret
     rw [HST.out]
     exact ⟨rfl, HSP.out, (Keeps.mono (G := [p]) HW.out.1 (by simp)).setCell (.inl (by simp)) _⟩
    ·have q1 : (t.s == s) = false := by simpa using hse
     have HNE := hid hse
     have HS4 := hid h4
     rw [h4] at t0
     clear h4 hse
     go_wp2_with fail
     exact ⟨⟨k + 1, rfl, by omega, HW.out.1, HW.out.2.1, fun h => by rw [HTA.out, List.mem_append]; rintro (h2 | h2); exact HW.out.2.2 h h2; exact HNE.out (by simpa using h2)⟩, by simp [intOf]; omega⟩
   ·have q1 : (t.kind == 4) = false := by simpa using h4
    have HS4 := hid h4
    clear h4
    go_wp2_with fail
    exact ⟨⟨k + 1, rfl, by omega, HW.out.1, HW.out.2.1, fun h => absurd h HS4.out⟩, by simp [intOf]; omega⟩
  ·have k1 : (m : Int) ≤ (k : Int) := by omega
   have HST : Hid (takesP l i sg = ([], i)) := by
    rw [HTP.out, if_neg]
    ·exact rfl
    ·rintro ⟨h4, h5⟩
     refine HW.out.2.2 h4 ?_
     rw [List.take_of_length_le (by rw [HM.out]; omega)]
     simpa using h5
   go_wp2_with fail
   go_ret
   rw [HST.out]
   exact ⟨rfl, HP.out.k HW.out.1, HW.out.1.mono (by simp)⟩
theorem paMust_ok (sg : List UInt8) (p i c j : Nat) (a : Option Addr) (T : Nat → Prop) (l : List TokD) (w : World) (h : PaAt w p a c T l i) (hm : mustP l i sg = .ok j) (hs : sg ≠ []) :
 Calls Tryz.prog 266 #[ptrV p, .string (str sg)] w fun e w' => e = .returned (.tuple #[]) ∧ PaAt w' p a c T l j ∧ Keeps [p] w w' := by
 have hne : (takesP l i [sg]).1 = sg ∧ (takesP l i [sg]).2 = j := by
  unfold mustP at hm
  split at hm
  ·cases hm
  ·rename_i h1
   simp at hm
   refine ⟨?_, hm⟩
   unfold takesP at h1 ⊢
   split at h1
   ·rename_i h2
    rw [if_pos h2]
    simpa using h2.2
   ·exact absurd rfl h1
 have HP := hid h
 have HT := hid (fun wx a1 c1 hr hx => paTakes_any [sg] a1 1 c1 p i c a T l wx hr rfl (by decide) hx)
 have HN := hid hne
 have hse : (sg == []) = false := by simpa using hs
 have HS := hid hs
 have hp := (Array.getElem?_eq_some_iff.1 h.2.2.1).1
 clear h hm hne hs
 unfold ptrV at HT ⊢
 go_enter Tryz.func266, Tryz.ntmps266
 go_wp2_with fail
 have hb := heap_alloc_new w (.cells #[.string (str sg)] 9)
 refine (HT.out _ _ _ (Reads.ofBlock hb rfl (by decide)) (HP.out.k (by exact Keeps.K))).mono ?_
 rintro e w1 ⟨rfl, hp1, hk1⟩
 rw [HN.out.1]
 rw [HN.out.2] at hp1
 have HP1 := hid hp1
 have K1 : Hid (Keeps [p] w w1) := Keeps.trans (F := [p]) (G := [p]) (by exact Keeps.K) hk1 (fun _ _ h => h)
 clear hp1 hk1
 go_wp2_with fail
 exact bodyPost_end (by simp [results, Tryz.results266, go_sem]) rfl ⟨rfl, HP1.out, K1.out⟩
theorem paOp_any (s : List UInt8) (w : World) : Calls Tryz.prog 234 #[.string (str s)] w fun e w' => e = .returned (.int .i64 (opS s)) ∧ Keeps [] w w' := by
 have HR : Hid (∀ k, opS s = k → Ending.returned (.int .i64 k) = .returned (.int .i64 (opS s)) ∧ Keeps [] w w) := fun k h => ⟨by rw [h], Keeps.refl _ _⟩
 go_enter Tryz.func234, Tryz.ntmps234
 go_wp2_with fail
 all_goals go_ret
 all_goals refine HR.out _ ?_
 all_goals simp_all [opS]
theorem paLevel_any (n : Nat) (w : World) (hn : n ≤ 4) : Calls Tryz.prog 233 #[.int .i64 n] w fun e w' => ∃ a c, e = .returned (.slice a (levelS n).length c) ∧ Reads w' 1 (.slice a (levelS n).length c) (levelS n).length ((levelS n).map fun s => Value.string (str s)) ∧ Keeps [] w w' := by
 have h : n = 0 ∨ n = 1 ∨ n = 2 ∨ n = 3 ∨ n = 4 := by omega
 rcases h with rfl | rfl | rfl | rfl | rfl
 all_goals
  go_enter Tryz.func233, Tryz.ntmps233
  go_wp2_with fail
  go_ret
  exact ⟨_, _, rfl, Reads.ofBlock (heap_alloc_new w _) rfl (by decide), by exact Keeps.K⟩
end Go.Proofs.YtgjiahilbmeaeaaGreatDoor