/- Expressions that may be: Check; their names. -/
import Derived.Test.YtgjiahilbmeaeaaGreatDoorR06
import Derived.Test.YtgjiahilbmeaeaaGreatDoorR07
set_option maxRecDepth 100000
set_option maxHeartbeats 8000000
set_option linter.unusedSimpArgs false
set_option linter.unusedVariables false
namespace Go.Proofs.YtgjiahilbmeaeaaGreatDoor
open Go Go.RowKit
theorem paCheck_ok (e : ExprD) (cs : List Value) (P : Nat → Prop) (w : World) (hT : Tabs w) (hE : Errs w) (hat : ExprAt w P e cs) (h : exprOk e = true) :
 Calls Tryz.prog 142 #[.agg cs.toArray] w fun e w' => e = .returned (.bool true) ∧ Keeps [] w w' := by
 obtain ⟨l, hl⟩ : ∃ l, holdsE e 128 1 = (l, true) := ⟨_, Prod.ext rfl h⟩
 have HC := hid (fun wx (k : Keeps [] w wx) => paHolds_ok e 128 1 l cs P wx (hT.k k) (hE.k k) (ExprAt.keep k (fun _ _ => by simp) hat) (by decide) (by decide) hl)
 obtain ⟨o, n, s, ks⟩ := e
 obtain ⟨a, c, rfl, _⟩ := ExprAt.parts hat
 clear hat h hl hT hE
 go_enter Tryz.func142, Tryz.ntmps142
 go_wp2_with fail
 refine (HC.out _ (by exact Keeps.K)).mono ?_
 rintro e w1 ⟨rfl, hk⟩
 have K : Hid (Keeps [] w w1) := Keeps.trans (F := []) (G := []) (by exact Keeps.K) hk (fun _ _ h => h)
 clear hk
 go_wp2_with fail
 go_ret
 exact ⟨rfl, K.out⟩
theorem str_data (s : ByteArray) : str s.data.toList = s := by simp [str]
def namesB (e : ExprD) : List Nm := (namesE e).map fun s => s.data.toList
def namesKB (ks : List ExprD) : List Nm := (namesK ks).map fun s => s.data.toList
theorem namesB_mk (o n : Int) (s : ByteArray) (ks : List ExprD) : namesB (.mk o n s ks) = (if o = 4 then [s.data.toList] else []) ++ namesKB ks := by
 unfold namesB namesKB namesE
 rw [List.map_append]
 split <;> rfl
theorem namesK_take (ks : List ExprD) (j : Nat) (k0 : ExprD) (h : ks[j]? = some k0) : namesKB (ks.take (j + 1)) = namesKB (ks.take j) ++ namesB k0 := by
 have key : ∀ (l : List ExprD) (x : ExprD), namesKB (l ++ [x]) = namesKB l ++ namesB x := by
  intro l x
  induction l with
  | nil => simp [namesKB, namesB, namesK]
  | cons y r ih =>
    have e1 : namesKB (y :: (r ++ [x])) = namesB y ++ namesKB (r ++ [x]) := by unfold namesKB namesB; rw [namesK, List.map_append]
    have e2 : namesKB (y :: r) = namesB y ++ namesKB r := by unfold namesKB namesB; rw [namesK, List.map_append]
    rw [List.cons_append, e1, e2, ih, List.append_assoc]
 rw [List.take_add_one, h, Option.toList_some, key]
theorem namesK_le (ks : List ExprD) (j : Nat) : (namesKB (ks.take j)).length ≤ (namesKB ks).length := by
 have key : ∀ (l m : List ExprD), (namesKB (l ++ m)).length = (namesKB l).length + (namesKB m).length := by
  intro l m
  induction l with
  | nil => simp [namesKB, namesK]
  | cons y r ih =>
    have e1 : namesKB (y :: (r ++ m)) = namesB y ++ namesKB (r ++ m) := by unfold namesKB namesB; rw [namesK, List.map_append]
    have e2 : namesKB (y :: r) = namesB y ++ namesKB r := by unfold namesKB namesB; rw [namesK, List.map_append]
    rw [List.cons_append, e1, e2, List.length_append, List.length_append, ih]
    omega
 have := key (ks.take j) (ks.drop j)
 rw [List.take_append_drop] at this
 omega
def okE (e : ExprD) : Prop := ∃ left deep l, holdsE e left deep = (l, true)
theorem holdsK_all : ∀ {ks : List ExprD} {left deep l : Int}, holdsK ks left deep = (l, true) → ∀ k ∈ ks, okE k
 | [], _, _, _, _, k, hk => by cases hk
 | e :: r, left, deep, l, h, k, hk => by
   obtain ⟨m, h1, h2⟩ := holdsK_step h
   rcases List.mem_cons.1 hk with rfl | hk
   ·exact ⟨_, _, _, h1⟩
   ·exact holdsK_all h2 k hk
theorem okE.parts {o n : Int} {s : ByteArray} {ks : List ExprD} (h : okE (.mk o n s ks)) : aloneD (.mk o n s ks) = true ∧ (∀ k ∈ ks, okE k) ∧ ks.length ≤ 3 := by
 obtain ⟨left, deep, l, h⟩ := h
 obtain ⟨_, _, h3, h4⟩ := holdsE_parts h
 refine ⟨h3, holdsK_all h4, ?_⟩
 have := (aloneD_parts h3).1
 have := kidsN_le o
 omega
theorem okE.of {e : ExprD} (h : exprOk e = true) : okE e := ⟨128, 1, _, Prod.ext rfl h⟩
def NamesEnd (w : World) (base : Nat) (l : List Nm) (e : Ending) (w' : World) : Prop :=
 ∃ a c, e = .returned (.slice a l.length c) ∧ OwnAt strL 9 w' base (fun _ => False) (.slice a l.length c) l ∧ KeepsP (fun x => base ≤ x) w w'
theorem paNamesR_ok : ∀ (e : ExprD) (l : List Nm) (n : Nat) (a0 : Option Addr) (c0 : Nat) (cs : List Value) (P : Nat → Prop) (base : Nat) (w : World), ExprAt w P e cs → (∀ b, P b → b < base) → base ≤ w.heap.size → l.length = n → OwnAt strL 9 w base (fun _ => False) (.slice a0 n c0) l → n + (namesB e).length ≤ 1000 → okE e →
 Calls Tryz.prog 144 #[.slice a0 n c0, .agg cs.toArray] w (NamesEnd w base (l ++ namesB e))
 | .mk o n s ks, l, ln, a0, c0, cs, P, base, w, hat, hP, hb, hln, hown, hlen, hok => by
   have IH : ∀ k ∈ ks, ∀ (l : List Nm) (n : Nat) (a0 : Option Addr) (c0 : Nat) (cs : List Value) (P : Nat → Prop) (base : Nat) (w : World), ExprAt w P k cs → (∀ b, P b → b < base) → base ≤ w.heap.size → l.length = n → OwnAt strL 9 w base (fun _ => False) (.slice a0 n c0) l → n + (namesB k).length ≤ 1000 → okE k →
    Calls Tryz.prog 144 #[.slice a0 n c0, .agg cs.toArray] w (NamesEnd w base (l ++ namesB k)) := fun k hk => paNamesR_ok k
   obtain ⟨it, hi0, hz0, hz1, hz2⟩ := info_parts Tryz.infoStr
   obtain ⟨a, c, rfl, hls⟩ := hat.parts
   have HIH := hid IH
   have HLS := hid hls
   have HP := hid hP
   have HB := hid hb
   rw [namesB_mk] at hlen ⊢
   have HLEN := hid hlen
   have HOWN := hid hown
   have HLN := hid hln
   have HKS : Hid (ks.length ≤ 1000) := Nat.le_trans hok.parts.2.2 (by decide)
   have HOK := hid hok.parts.2.1
   clear IH hls hP hat hlen hb hown hln hok
   have HGE := hid (OwnAt.ge HOWN.out)
   by_cases h4 : o = 4
   case' pos =>
    subst h4
    have hle := HLEN.out
    simp only [if_true, List.length_append, List.length_cons, List.length_nil] at hle
    have hl1 : ln + 1 ≤ 1000 := by omega
    go_enter Tryz.func144, Tryz.ntmps144
    go_wp2_with (at_builtin; go_must (refine wpList_append_lay (L := strL) (PA := fun _ => False) (PB := fun _ => False) (PC := fun _ => False) _ (by rfl) _ _ _ (by rfl) base 9 it _ 16 Tryz.underlying69 hi0 hz0 hz1 hz2 rfl (.slice a0 ln c0) (by rfl) l [s.data.toList] [[.string s]] (HOWN.out.k (by exact Keeps.K)) (.slice (some ⟨w.heap.size + 1, 0, none⟩) 1 1) (by rfl) 1 rfl (ElemsAt.one1 (by show [Value.string s] = [Value.string (str s.data.toList)]; rw [str_data])) (Reads.one1 (new2K w _ _) rfl) (by have := HLN.out; omega) (le_maxLen (by have := HLN.out; omega)) (Nat.le_trans HB.out (Keeps.size (F := []) (by exact Keeps.K))) (fun _ _ h => h) (fun _ _ h => h) (fun _ h => absurd h (by simp)) ?_); intro a5 c5 w5 ho5 hk5 hb5; have x5 : w5.cell? ⟨w.heap.size, 3, none⟩ = some (.slice a ks.length c) := hk5.out.cellSome (by go_simp) (fun hm => by have := HGE.out _ hm; simp at this))
    obtain ⟨l1, hl1⟩ : ∃ l1, l ++ [s.data.toList] = l1 := ⟨_, rfl⟩
    obtain ⟨n1, hn1⟩ : ∃ n1, l.length + 1 = n1 := ⟨_, rfl⟩
    have HS : Hid ((l1.length = n1 ∧ l1 ++ namesKB ks = l ++ ((if (4 : Int) = 4 then [s.data.toList] else []) ++ namesKB ks) ∧ n1 + (namesKB ks).length ≤ 1000) ∧ OwnAt strL 9 w5 base (fun _ => False) (.slice a5 n1 c5) l1 ∧ KeepsP (fun x => base ≤ x) w w5) := by
     refine ⟨⟨by rw [← hl1, ← hn1]; simp, by rw [← hl1]; simp, by have := HLN.out; omega⟩, ?_, ?_⟩
     ·rw [← hl1, ← hn1]; exact ho5.out
     ·have k2 : Keeps [] w ((w.alloc (.cells #[.int .i64 4, .int .i64 n, .string s, .slice a ks.length c] 76)).alloc (.cells #[.string s] 9)) := by exact Keeps.K
      exact (KeepsP.of0 k2).trans (F' := fun x => base ≤ x) (KeepsP.of hk5.out (fun x hx => (HGE.out x hx).1)) (fun _ _ h => h)
    rw [hn1]
    clear hl1 hn1 ho5 hk5 hb5 hle
   case' neg =>
    have h4' : (o == 4) = false := by simpa using h4
    have HN4 := hid h4
    have x5 : (w.alloc (.cells #[.int .i64 o, .int .i64 n, .string s, .slice a ks.length c] 76)).cell? ⟨w.heap.size, 3, none⟩ = some (.slice a ks.length c) := cell_of_block (heap_alloc_new w _) 3
    have HS : Hid ((l.length = ln ∧ l ++ namesKB ks = l ++ ((if o = 4 then [s.data.toList] else []) ++ namesKB ks) ∧ ln + (namesKB ks).length ≤ 1000) ∧ OwnAt strL 9 (w.alloc (.cells #[.int .i64 o, .int .i64 n, .string s, .slice a ks.length c] 76)) base (fun _ => False) (.slice a0 ln c0) l ∧ KeepsP (fun x => base ≤ x) w (w.alloc (.cells #[.int .i64 o, .int .i64 n, .string s, .slice a ks.length c] 76))) := by
     refine ⟨⟨HLN.out, by rw [if_neg h4]; rfl, ?_⟩, HOWN.out.k (by exact Keeps.K), KeepsP.of0 (by exact Keeps.K)⟩
     have := HLEN.out
     rw [if_neg h4] at this
     simpa using this
    go_enter Tryz.func144, Tryz.ntmps144
    go_wp2_with fail
    obtain ⟨w5, hw5⟩ : ∃ w5, w.alloc (.cells #[.int .i64 o, .int .i64 n, .string s, .slice a ks.length c] 76) = w5 := ⟨_, rfl⟩
    rw [hw5] at HS x5 ⊢
    obtain ⟨l1, hl1⟩ : ∃ l1, l = l1 := ⟨_, rfl⟩
    have HL1 := hid hl1
    rw [hl1] at HS ⊢
    obtain ⟨n1, hn1⟩ : ∃ n1, ln = n1 := ⟨_, rfl⟩
    rw [hn1] at HS ⊢
    obtain ⟨a5, ha5⟩ : ∃ a5, a0 = a5 := ⟨_, rfl⟩
    obtain ⟨c5, hc5⟩ : ∃ c5, c0 = c5 := ⟨_, rfl⟩
    rw [ha5, hc5] at HS ⊢
    clear hw5 hl1 hn1 ha5 hc5
   all_goals
    have HX5 := hid x5
    clear x5
    go_loopw [0, 18] (fun lv iv wr => ∃ (j : Nat) (av : Option Addr) (cv nv : Nat) (lj : List Nm), lv = .slice av nv cv ∧ iv = .int .i64 (j : Int) ∧ j ≤ ks.length ∧ Hid (lj = l1 ++ namesKB (ks.take j) ∧ lj.length = nv ∧ OwnAt strL 9 wr base (fun _ => False) (.slice av nv cv) lj ∧ KeepsP (fun x => base ≤ x) w wr)) (fun _ iv _ => ks.length - (intOf iv).toNat)
    case atStart => exact ⟨0, a5, c5, n1, l1, rfl, rfl, Nat.zero_le _, by simp [namesKB, namesK], HS.out.1.1, HS.out.2.1, HS.out.2.2⟩
    case round =>
     obtain ⟨j, av, cv, nv, lj, rfl, rfl, hj, hW⟩ := hrel
     have HW := hid hW.out
     clear hW
     have j0 : (0 : Int) ≤ (j : Int) := Int.natCast_nonneg _
     have hnl := namesK_le ks j
     have hkl : ks.length ≤ 1000 := HKS.out
     by_cases hlt : j < ks.length
     ·have i1 : (j : Int) < (ks.length : Int) := by omega
      have hw1 : IntKind.i64.wrap ((j : Int) + 1) = (j : Int) + 1 := by rw [IntKind.wrap_i64]; omega
      obtain ⟨k0, hk0⟩ : ∃ k0, ks[j]? = some k0 := ⟨_, List.getElem?_eq_getElem hlt⟩
      have hst := namesK_take ks j k0 hk0
      have hle := namesK_le ks (j + 1)
      rw [hst, List.length_append] at hle
      obtain ⟨G, kG, hG⟩ := HW.out.2.2.2
      have hkr := HLS.out.keep kG (fun b hb hm => by have := HP.out b hb; have := hG b hm; omega)
      obtain ⟨g, off, c', hv, hnc, _, _, _⟩ := hkr.addr (by intro e; subst e; simp at hlt)
      simp only [Value.slice.injEq] at hv
      obtain ⟨rfl, -, rfl⟩ := hv
      obtain ⟨cs, hcs, hcell⟩ := hkr.get hk0
      have hcalls := fun wx (k : Keeps [] wr wx) => HIH.out k0 (List.mem_of_getElem? hk0) lj nv av cv cs P base wx (ExprAt.keep k (fun _ _ => by simp) hcs) HP.out (Nat.le_trans HB.out (Nat.le_trans kG.size k.size)) HW.out.2.1 (HW.out.2.2.1.k k) (by have h1 := HW.out.1; have h2 := HW.out.2.1; rw [h1, List.length_append] at h2; have := HS.out.1; omega) (HOK.out k0 (List.mem_of_getElem? hk0))
      obtain ⟨o0, n0, s0, l0⟩ := k0
      obtain ⟨a9, c9, rfl, _⟩ := ExprAt.parts hcs
      have y0 : wr.cell? ⟨g, off + j * 4, none⟩ = some (.int .i64 o0) := by simpa [exprL] using hcell 0 _ rfl
      have y1 : wr.cell? ⟨g, off + j * 4 + 1, none⟩ = some (.int .i64 n0) := by simpa [exprL] using hcell 1 _ rfl
      have y2 : wr.cell? ⟨g, off + j * 4 + 2, none⟩ = some (.string s0) := by simpa [exprL] using hcell 2 _ rfl
      have y3 : wr.cell? ⟨g, off + j * 4 + 3, none⟩ = some (.slice a9 l0.length c9) := by simpa [exprL] using hcell 3 _ rfl
      have HC := hid hcalls
      have HST := hid hst
      have HLT := hid hlt
      clear hcs hcell hcalls hkr hst hk0 hnc hlt hle hnl kG hG
      go_wp2_with fail
      refine (HC.out _ (by exact Keeps.K)).mono ?_
      rintro e w6 ⟨a6, c6, rfl, ho6, hk6⟩
      have HO6 := hid ho6
      have HK6 : Hid (KeepsP (fun x => base ≤ x) w w6) := (HW.out.2.2.2.trans (F' := fun x => base ≤ x) ((KeepsP.of0 (F := fun x => base ≤ x) (by exact Keeps.K)).trans hk6 (fun _ _ h => h)) (fun _ _ h => h))
      clear ho6 hk6
      go_wp2_with fail
      have := HLT.out
      exact ⟨⟨j + 1, a6, c6, _, _, rfl, rfl, by omega, by rw [HST.out, ← List.append_assoc, ← HW.out.1], List.length_append, (by have hh := HO6.out; rw [List.length_append] at hh; exact hh), HK6.out⟩, by simp [intOf]; omega⟩
     ·have i1 : (ks.length : Int) ≤ (j : Int) := by omega
      go_wp2_with fail
      go_ret
      have h1 := HW.out.1
      rw [List.take_of_length_le (by omega)] at h1
      have h5 := h1.trans HS.out.1.2.1
      have h3 := HW.out.2.1
      have h6 := HW.out.2.2
      clear h1
      subst h3
      first
       | (have h7 : lj = l ++ s.data.toList :: namesKB ks := (by rw [h5]; simp; done); rw [← h7]; exact ⟨av, cv, rfl, h6.1, h6.2⟩)
       | (have h7 : lj = l ++ namesKB ks := (by rw [h5, HL1.out, if_neg h4]; rfl); rw [← h7]; exact ⟨av, cv, rfl, h6.1, h6.2⟩)
termination_by e => e
decreasing_by
 have := List.sizeOf_lt_of_mem hk
 simp
 omega
end Go.Proofs.YtgjiahilbmeaeaaGreatDoor