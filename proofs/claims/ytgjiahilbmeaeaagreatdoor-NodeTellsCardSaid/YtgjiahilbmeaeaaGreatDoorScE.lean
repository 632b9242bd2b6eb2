/- A form's fields: what each needs. -/
import Derived.Test.YtgjiahilbmeaeaaGreatDoorR14
import Derived.Test.YtgjiahilbmeaeaaGreatDoorScD
import Derived.Test.YtgjiahilbmeaeaaGreatDoorR15
import Derived.Test.YtgjiahilbmeaeaaGreatDoorR09
set_option maxRecDepth 100000
set_option maxHeartbeats 8000000
set_option linter.unusedSimpArgs false
set_option linter.unusedVariables false
namespace Go.Proofs.YtgjiahilbmeaeaaGreatDoor
open Go Go.RowKit
def NeOk (names : List (List UInt8)) (x : SfdD) : Prop :=
 match x.formula with
 | none => x.needs = []
 | some e => exprOk e = true ∧ (namesB e).length ≤ 1000 ∧ (namesD e).length ≤ 1000 ∧ (∀ s ∈ namesD e, s ∈ names ∧ s.length ≤ 1000) ∧ x.needs = sortN ((namesD e).map fun s => idx s names)
theorem idx_get {s : List UInt8} : ∀ {names : List (List UInt8)}, s ∈ names → names[idx s names]? = some s
 | [], h => by cases h
 | x :: r, h => by
   unfold idx
   by_cases e : x == s
   ·rw [if_pos e]
    simpa using e
   ·rw [if_neg e]
    have hs : s ∈ r := by
     rcases List.mem_cons.1 h with h | h
     ·exact absurd (by simp [h]) e
     ·exact h
    simpa using idx_get hs
def LkEl (w : World) (P : Nat → Prop) (l : List SfdD) (i : Nat) (css : List (List Value)) : Prop := ∀ (j : Nat) cs x, css[j]? = some cs → l[j]? = some x → if j < i then SfAt w P cs x else Sf0At w P x.f x.formula x.rule x.shown cs
def LkAt (w : World) (B g n cap : Nat) (P : Nat → Prop) (l : List SfdD) (i : Nat) (css : List (List Value)) : Prop :=
 RowAt w B g n cap css ∧ l.length = n ∧ LkEl w P l i css
theorem SfAt.keep {G : List Nat} {w w' : World} {P : Nat → Prop} {cs : List Value} {x : SfdD} (h : SfAt w P cs x) (k : Keeps G w w') (hP : ∀ b, P b → b ∉ G) : SfAt w' P cs x := sfL.keep h k hP
theorem SfAt.mono {w : World} {P P' : Nat → Prop} {cs : List Value} {x : SfdD} (h : SfAt w P cs x) (hP : ∀ b, b < w.heap.size → P b → P' b) : SfAt w P' cs x := sfL.mono h hP
theorem LkEl.keep {G : List Nat} {w w' : World} {P : Nat → Prop} {l : List SfdD} {i : Nat} {css : List (List Value)} (h : LkEl w P l i css) (k : Keeps G w w') (hP : ∀ b, P b → b ∉ G) : LkEl w' P l i css := by
 intro j cs x hc hx
 have := h j cs x hc hx
 split
 ·rename_i hj
  rw [if_pos hj] at this
  exact this.keep k hP
 ·rename_i hj
  rw [if_neg hj] at this
  exact this.keep k hP
theorem LkEl.mono {w : World} {P P' : Nat → Prop} {l : List SfdD} {i : Nat} {css : List (List Value)} (h : LkEl w P l i css) (hP : ∀ b, b < w.heap.size → P b → P' b) : LkEl w P' l i css := by
 intro j cs x hc hx
 have := h j cs x hc hx
 split
 ·rename_i hj
  rw [if_pos hj] at this
  exact this.mono hP
 ·rename_i hj
  rw [if_neg hj] at this
  exact this.mono hP
theorem LkAt.keep {G : List Nat} {w w' : World} {B g n cap : Nat} {P : Nat → Prop} {l : List SfdD} {i : Nat} {css : List (List Value)} (h : LkAt w B g n cap P l i css) (k : Keeps G w w') (hG : g ∉ G) (hP : ∀ b, P b → b ∉ G) : LkAt w' B g n cap P l i css :=
 ⟨h.1.keep k hG, h.2.1, LkEl.keep h.2.2 k hP⟩
theorem LkAt.mono {w : World} {B g n cap : Nat} {P P' : Nat → Prop} {l : List SfdD} {i : Nat} {css : List (List Value)} (h : LkAt w B g n cap P l i css) (hP : ∀ b, b < w.heap.size → P b → P' b) : LkAt w B g n cap P' l i css :=
 ⟨h.1, h.2.1, LkEl.mono h.2.2 hP⟩
theorem Sf0At.tail {w : World} {P : Nat → Prop} {f : FldD} {o1 o2 o3 : Option ExprD} {cs : List Value} (h : Sf0At w P f o1 o2 o3 cs) : cs[17]? = some (.bool o1.isSome) ∧ cs[20]? = some (.slice none 0 0) := by
 obtain ⟨c1, c2, c3, h1, h2, h3, rfl⟩ := h
 obtain ⟨x0, x1, x2, x3, rfl⟩ := list4 h1.len
 obtain ⟨y0, y1, y2, y3, rfl⟩ := list4 h2.len
 obtain ⟨z0, z1, z2, z3, rfl⟩ := list4 h3.len
 exact ⟨rfl, rfl⟩
theorem Sf0At.expr {w : World} {P : Nat → Prop} {f : FldD} {e : ExprD} {o2 o3 : Option ExprD} {cs : List Value} (h : Sf0At w P f (some e) o2 o3 cs) : ∃ v0 v1 v2 v3, ExprAt w P e [v0, v1, v2, v3] ∧ cs[5]? = some v0 ∧ cs[6]? = some v1 ∧ cs[7]? = some v2 ∧ cs[8]? = some v3 := by
 obtain ⟨c1, c2, c3, h1, h2, h3, rfl⟩ := h
 obtain ⟨x0, x1, x2, x3, rfl⟩ := list4 h1.len
 exact ⟨x0, x1, x2, x3, h1, rfl, rfl, rfl, rfl⟩
theorem Sf0At.needs {w : World} {P : Nat → Prop} {x : SfdD} {cs : List Value} {nv : Value} (h : Sf0At w P x.f x.formula x.rule x.shown cs) (hr : Reads w 1 nv x.needs.length (natC x.needs)) (hl : Lies P nv x.needs.length) : SfAt w P (cs.set 20 nv) x := by
 obtain ⟨c1, c2, c3, h1, h2, h3, rfl⟩ := h
 refine ⟨c1, c2, c3, nv, h1, h2, h3, hr, hl, ?_⟩
 obtain ⟨x0, x1, x2, x3, rfl⟩ := list4 h1.len
 obtain ⟨y0, y1, y2, y3, rfl⟩ := list4 h2.len
 obtain ⟨z0, z1, z2, z3, rfl⟩ := list4 h3.len
 rfl
theorem Sf0At.none {w : World} {P : Nat → Prop} {x : SfdD} {cs : List Value} (h : Sf0At w P x.f x.formula x.rule x.shown cs) (hn : x.needs = []) : SfAt w P cs x := by
 obtain ⟨c1, c2, c3, h1, h2, h3, rfl⟩ := h
 exact ⟨c1, c2, c3, .slice .none 0 0, h1, h2, h3, by rw [hn]; exact ⟨rfl, .inl ⟨rfl, _, _, rfl⟩⟩, by rw [hn]; exact fun h => absurd rfl h, rfl⟩
theorem LkEl.step {w : World} {P : Nat → Prop} {l : List SfdD} {i : Nat} {css : List (List Value)} {cs : List Value} {x : SfdD} (h : LkEl w P l i css) (hx : l[i]? = some x) (hs : SfAt w P cs x) : LkEl w P l (i + 1) (css.set i cs) := by
 intro j c y hc hy
 rw [List.getElem?_set] at hc
 by_cases e : i = j
 ·subst e
  rw [if_pos rfl] at hc
  split at hc
  ·rw [if_pos (Nat.lt_succ_self _)]
   rw [hx] at hy
   cases hc
   cases hy
   exact hs
  ·cases hc
 ·rw [if_neg e] at hc
  have := h j c y hc hy
  by_cases hj : j < i
  ·rw [if_pos hj] at this
   rw [if_pos (by omega)]
   exact this
  ·rw [if_neg hj] at this
   rw [if_neg (by omega)]
   exact this
theorem LkAt.step {w : World} {B g n cap : Nat} {P : Nat → Prop} {l : List SfdD} {i : Nat} {css : List (List Value)} {cs : List Value} {x : SfdD} (h : LkAt w B g n cap P l i css) (hx : l[i]? = some x) (hr : RowAt w B g n cap (css.set i cs)) (hs : SfAt w P cs x) : LkAt w B g n cap P l (i + 1) (css.set i cs) :=
 ⟨hr, h.2.1, LkEl.step h.2.2 hx hs⟩
theorem LkAt.grown {w w4 : World} {B g n cap s : Nat} {P : Nat → Prop} {l : List SfdD} {i : Nat} {css : List (List Value)} {v v4 : Value} (h : LkAt w B g n cap (fun b => P b ∨ (s ≤ b ∧ b ∉ ownB v)) l i css) (k : Keeps (ownB v) w w4) (hv : ∀ b ∈ ownB v4, b ∈ ownB v ∨ w.heap.size ≤ b) (hP : ∀ b, P b → b < s) (hge : ∀ b ∈ ownB v, s ≤ b) (hg : g < s) : LkAt w4 B g n cap (fun b => P b ∨ (s ≤ b ∧ b ∉ ownB v4)) l i css := by
 have h1 := h.mono (P' := fun b => (P b ∨ (s ≤ b ∧ b ∉ ownB v)) ∧ b < w.heap.size) (fun b hb hp => ⟨hp, hb⟩)
 refine (h1.keep k (fun hm => by have := hge _ hm; omega) (fun b hb hm => ?_)).mono fun b _ hb => ?_
 ·rcases hb.1 with hp | hp
  ·have := hP b hp
   have := hge b hm
   omega
  ·exact hp.2 hm
 ·rcases hb.1 with hp | hp
  ·exact .inl hp
  ·refine .inr ⟨hp.1, fun hm => ?_⟩
   rcases hv b hm with h | h
   ·exact hp.2 h
   ·omega
theorem set_same {α : Type} {l : List α} {i : Nat} {x : α} (h : l[i]? = some x) : l.set i x = l := by
 apply List.ext_getElem?
 intro j
 rw [List.getElem?_set]
 split
 ·rename_i e
  subst e
  rw [h, if_pos (List.getElem?_eq_some_iff.1 h).1]
 ·rfl
def NdAt (w w0 : World) (B g n cap i H : Nat) (css : List (List Value)) (cs : List Value) (ks : List Nat) (a : Option Addr) (j c : Nat) : Prop :=
 RowAt w B g n cap (css.set i (cs.set 20 (.slice a j c))) ∧ w.ownsRow H 3 1 (.slice a j c) j (natC (ks.take j)) ∧ Keeps [g] w0 w
theorem NdAt.k {w w' w0 : World} {B g n cap i H : Nat} {css : List (List Value)} {cs : List Value} {ks : List Nat} {a : Option Addr} {j c : Nat} (h : NdAt w w0 B g n cap i H css cs ks a j c) (k : Keeps [] w w') : NdAt w' w0 B g n cap i H css cs ks a j c :=
 ⟨h.1.keep k (by simp), ownsRow_keeps h.2.1 k (fun _ _ h => by cases h), h.2.2.trans k (fun _ _ h => by cases h)⟩
theorem NdAt.cells {w w0 : World} {B g n cap i H : Nat} {css : List (List Value)} {cs : List Value} {ks : List Nat} {a : Option Addr} {j c : Nat} (h : NdAt w w0 B g n cap i H css cs ks a j c) (hi : i < css.length) (hc : cs.length = 21) : w.cell? ⟨g, i * 21 + 20, none⟩ = some (.slice a j c) ∧ w.frozen? ⟨g, i * 21 + 20, none⟩ = false := by
 have h1 : (css.set i (cs.set 20 (.slice a j c)))[i]? = some (cs.set 20 (.slice a j c)) := by simp [hi]
 have h2 := h.1.cell h1 (j := 20) (by decide)
 exact ⟨h2.1.trans (by simp [hc]), h2.2⟩
theorem NdAt.step {w w3 w0 : World} {B g n cap i H : Nat} {css : List (List Value)} {cs : List Value} {ks : List Nat} {a a' : Option Addr} {j c c' k : Nat} (h : NdAt w w0 B g n cap i H css cs ks a j c) (hi : i < css.length) (hc : cs.length = 21) (hg : g < H) (hk : ks[j]? = some k) (ho : w3.ownsRow H 3 1 (.slice a' (j + 1) c') (j + 1) (natC (ks.take j ++ [k]))) (k3 : Keeps (ownB (.slice a j c)) w w3) (hw : w0.heap.size = H) : NdAt (w3.setCell ⟨g, i * 21 + 20, none⟩ (.slice a' (j + 1) c')) w0 B g n cap i H css cs ks a' (j + 1) c' := by
 have hgo : g ∉ ownB (.slice a j c) := fun hm => by have := (ownB_ge h.2.1 g hm).1; omega
 have h1 : (css.set i (cs.set 20 (.slice a j c)))[i]? = some (cs.set 20 (.slice a j c)) := by simp [hi]
 have h2 := (h.1.keep k3 hgo).set h1 (j := 20) (by decide) (.slice a' (j + 1) c')
 rw [List.set_set, List.set_set] at h2
 refine ⟨h2, ?_, ?_⟩
 ·rw [List.take_add_one, hk]
  refine ownsRow_keeps ho (F := [g]) ((Keeps.refl _ _).setCell (.inl (by simp)) _) (fun b hb hm => ?_)
  simp at hm
  have := (ownB_ge ho b hb).1
  omega
 ·exact (h.2.2.trans k3 (fun b hb hm => by have := (ownB_ge h.2.1 b hm).1; omega)).setCell (.inl (by simp)) _
def LinksEnd (w : World) (B g n cap : Nat) (P : Nat → Prop) (l : List SfdD) (e : Ending) (w' : World) : Prop :=
 ∃ a c css', e = .returned (.slice a n c) ∧ ListAt natsL w' (fun _ => True) (.slice a n c) (l.map (·.needs)) ∧ LkAt w' B g n cap (fun b => P b ∨ w.heap.size ≤ b) l n css' ∧ Keeps [g] w w'
theorem scLinks_ok (sb g n cap B bm : Nat) (ov : Value) (l : List SfdD) (css : List (List Value)) (P : Nat → Prop) (w W0 : World) (hTE : TE W0 w) (hW0 : W0.heap.size ≤ g) (hsb : w.heap[sb]? = some (.cells #[.slice (some ⟨g, 0, none⟩) n cap, .map (some bm), ov] 68 (0, 0))) (hg1 : sb ≠ g) (hg2 : bm ≠ g) (hat : AtMap w bm (l.map (·.f.name))) (hl : LkAt w B g n cap P l 0 css) (hP : ∀ b, P b → b ≠ g ∧ b < w.heap.size) (hn : ∀ x ∈ l, NeOk (l.map (·.f.name)) x) (h100 : n ≤ 100) :
 Calls Tryz.prog 29 #[.pointer (some ⟨sb, 0, none⟩)] w (LinksEnd w B g n cap P l) := by
 have HTE := hid (fun wx (k : Keeps [g] w wx) => (hTE.keep k (by simpa using hW0) : TE W0 wx))
 have HAT := hid hat
 have HL := hid hl
 have HP := hid hP
 have HN := hid hn
 have HSB := hid hsb
 have hgw : g < w.heap.size := (ownB_ge hl.1.1 g (by simp [mem_ownB, Value.ownBlock])).2
 have HG := hid (And.intro hg1 (And.intro hg2 hgw))
 have n0 : (0 : Int) ≤ (n : Int) := Int.natCast_nonneg _
 have n1 : (n : Int) ≤ 100 := by omega
 have z0 : w.cell? ⟨sb, 0, none⟩ = some (.slice (some ⟨g, 0, none⟩) n cap) := cell_of_block hsb 0
 obtain ⟨it, hi0, hz0, hz1, hz2⟩ := info_parts Tryz.infoIs24
 clear hTE hsb hat hl hP hn
 go_enter Tryz.func29, Tryz.ntmps29
 go_wp2_with fail
 go_loopw [3, 13] (fun nv iv wr => ∃ (i c3 : Nat) (a3 : Option Addr), nv = .slice a3 i c3 ∧ iv = .int .i64 (i : Int) ∧ i ≤ n ∧ Hid (∃ css', LkAt wr B g n cap (fun b => P b ∨ (w.heap.size ≤ b ∧ b ∉ ownB (.slice a3 i c3))) l i css' ∧ OwnAt natsL 66 wr w.heap.size (fun b => w.heap.size ≤ b ∧ b ∉ ownB (.slice a3 i c3)) (.slice a3 i c3) ((l.take i).map (·.needs)) ∧ Keeps [g] w wr)) (fun _ iv _ => n - (intOf iv).toNat)
 case atStart => exact ⟨0, 0, none, rfl, rfl, Nat.zero_le _, css, (HL.out.keep (G := []) (by exact Keeps.K) (by simp) (fun _ _ => by simp)).mono (fun b _ h => .inl h), OwnAt.nil _ _ _ _, by exact Keeps.K⟩
 case round =>
  clear HL
  obtain ⟨i, c3, a3, rfl, rfl, hi, hW⟩ := hrel
  obtain ⟨css2, hW⟩ := hW.out
  have HW := hid hW
  clear hW
  have i0 : (0 : Int) ≤ (i : Int) := Int.natCast_nonneg _
  have y0 : wr.cell? ⟨sb, 0, none⟩ = some (.slice (some ⟨g, 0, none⟩) n cap) := HW.out.2.2.cellSome z0 (by simpa using HG.out.1)
  by_cases hlt : i < n
  ·have i1 : (i : Int) < (n : Int) := by omega
   obtain ⟨x, hx⟩ : ∃ x, l[i]? = some x := ⟨_, List.getElem?_eq_getElem (by rw [HW.out.1.2.1]; exact hlt)⟩
   obtain ⟨cs, hcs⟩ : ∃ cs, css2[i]? = some cs := ⟨_, List.getElem?_eq_getElem (by rw [HW.out.1.1.2.2]; exact hlt)⟩
   have hsf := HW.out.1.2.2 i cs x hcs hx
   rw [if_neg (Nat.lt_irrefl _)] at hsf
   have hne := HN.out x (List.mem_of_getElem? hx)
   have c17 := (HW.out.1.1.cell hcs (j := 17) (by decide)).1.trans hsf.tail.1
   have c20 := (HW.out.1.1.cell hcs (j := 20) (by decide)).1.trans hsf.tail.2
   have htl : (((l.take i).map (·.needs)).length) = i := by simp [HW.out.1.2.1]; omega
   have HTL := hid htl
   have HX := hid hx
   have HCS := hid hcs
   have HSF := hid hsf
   have HNE := hid hne
   have HGE := hid (fun b hb => (HW.out.2.1.ge b hb))
   have HI := hid hlt
   have HTK : Hid (((l.take (i + 1)).map (·.needs)) = ((l.take i).map (·.needs)) ++ [x.needs]) := by
    show _ = _
    rw [List.take_add_one, hx]
    simp
   clear hx hcs hsf hne htl hlt
   obtain ⟨f, o1, o2, o3, ns⟩ := x
   rcases o1 with _ | e
   ·have hns : ns = [] := HNE.out
    subst hns
    simp only [Option.isSome_none] at c17
    go_wp2_with (at_builtin; go_must (refine wpList_append_off (L := natsL) (PB := fun _ => False) _ (by rfl) _ _ _ (by rfl) w.heap.size 66 it _ 24 Tryz.underlying82 hi0 hz0 hz1 hz2 rfl (R := fun b => w.heap.size ≤ b) (.slice a3 i c3) (by rfl) ((l.take i).map (·.needs)) [[]] i HTL.out [[.slice none 0 0]] (HW.out.2.1.k (by exact Keeps.K)) (.slice _ _ _) (by rfl) 1 rfl (ElemsAt.one1 ⟨.slice none 0 0, rfl, ⟨rfl, .inl ⟨rfl, _, _, rfl⟩⟩, fun h => absurd rfl h⟩) (Reads.one1 (heap_alloc_new _ _) rfl) (by omega) (le_maxLen (by omega)) (Nat.le_trans HW.out.2.2.size (Keeps.size (F := []) (by exact Keeps.K))) (fun b _ hb => hb.elim) ?_; intro a4 q4 w4 ho4 hk4 hv4))
    have KA : Hid (Keeps [] wr (wr.alloc (.cells #[.slice none 0 0] 66))) := by show Keeps _ _ _; exact Keeps.K
    have hlk := LkAt.grown (HW.out.1.keep KA.out (by simp) (fun _ _ => by simp)) hk4.out hv4.out (fun b hb => (HP.out b hb).2) (fun b hb => (HGE.out b hb).1) HG.out.2.2
    have h0 := hlk.2.2 i cs _ HCS.out HX.out
    rw [if_neg (Nat.lt_irrefl _)] at h0
    have hst := hlk.step HX.out (cs := cs) (by rw [set_same HCS.out]; exact hlk.1) (Sf0At.none h0 rfl)
    rw [set_same HCS.out] at hst
    refine ⟨⟨i + 1, q4, a4, rfl, rfl, by have := HI.out; omega, css2, hst, ?_, ?_⟩, by have := HI.out; simp [intOf]; omega⟩
    ·rw [HTK.out]
     exact ho4.out
    ·exact (HW.out.2.2.trans KA.out (fun _ _ h => by cases h)).trans hk4.out (fun b hb hm => by have := HGE.out b hm; omega)
   ·obtain ⟨v0, v1, v2, v3, hex, x5, x6, x7, x8⟩ := HSF.out.expr
    have d5 := (HW.out.1.1.cell HCS.out (j := 5) (by decide)).1.trans x5
    have d6 := (HW.out.1.1.cell HCS.out (j := 6) (by decide)).1.trans x6
    have d7 := (HW.out.1.1.cell HCS.out (j := 7) (by decide)).1.trans x7
    have d8 := (HW.out.1.1.cell HCS.out (j := 8) (by decide)).1.trans x8
    simp only [Option.isSome_some] at c17
    have hcn := paNames_ok e [v0, v1, v2, v3] _ wr (HTE.out wr HW.out.2.2).tabs (HTE.out wr HW.out.2.2).errs hex HNE.out.1 HNE.out.2.1
    have HCN := hid hcn
    clear hex x5 x6 x7 x8 hcn
    go_wp2_with fail
    refine HCN.out.mono ?_
    rintro _ w1 ⟨a1, c1, rfl, ho1, hk1⟩
    obtain ⟨ds, hds⟩ : ∃ ds, namesD e = ds := ⟨_, rfl⟩
    obtain ⟨ks, hks⟩ : ∃ ks, ds.map (fun s => idx s (l.map (·.f.name))) = ks := ⟨_, rfl⟩
    have hkl : ks.length = ds.length := by rw [← hks]; simp
    have hne := HNE.out.2.2
    rw [hds] at ho1 hne
    rw [hds]
    rw [hks] at hne
    have HNS : Hid (ns = sortN ks) := hne.2.2
    have HDM := hid hne.2.1
    have hdl : ds.length ≤ 1000 := hne.1
    have HK := hid (And.intro hks hkl)
    have HO1 := hid ho1
    have K1 := hid hk1
    have HIC := hid (List.getElem?_eq_some_iff.1 HCS.out).1
    have HLN : Hid (cs.length = 21) := HSF.out.len
    have HGW : Hid (g < w1.heap.size) := Nat.lt_of_lt_of_le HG.out.2.2 (Nat.le_trans HW.out.2.2.size hk1.size)
    have HQ1 : Hid (NdAt w1 w1 B g n cap i w1.heap.size css2 cs ks none 0 0) := by
     refine ⟨?_, World.ownsRow_nil _ _ _ _, Keeps.refl _ _⟩
     rw [set_same HSF.out.tail.2, set_same HCS.out]
     exact HW.out.1.1.keep hk1 (by simp)
    have HOW1 : Hid (OwnAt natsL 66 w1 w.heap.size (fun b => (w.heap.size ≤ b ∧ b ∉ ownB (.slice a3 i c3)) ∧ b < w1.heap.size) (.slice a3 i c3) ((l.take i).map (·.needs))) := (HW.out.2.1.k hk1).mono (fun b hb h => ⟨h, hb⟩)
    have HEL1 : Hid (LkEl w1 (fun b => (P b ∨ (w.heap.size ≤ b ∧ b ∉ ownB (.slice a3 i c3))) ∧ b < w1.heap.size) l i css2) := (LkEl.keep HW.out.1.2.2 hk1 (fun _ _ h => by cases h)).mono (fun b hb h => ⟨h, hb⟩)
    have HGE1 : Hid (∀ b ∈ ownB (.slice a3 i c3), w.heap.size ≤ b ∧ b < w1.heap.size) := fun b hb => ⟨(HGE.out b hb).1, Nat.lt_of_lt_of_le (HGE.out b hb).2 hk1.size⟩
    have KW1 : Hid (Keeps [g] w w1) := HW.out.2.2.trans hk1 (fun _ _ h => by cases h)
    have e0 : (0 : Int) ≤ (ds.length : Int) := Int.natCast_nonneg _
    clear ho1 hk1 hne hks hkl hds d5 d6 d7 d8 c17 c20
    go_wp2_with fail
    go_loopw [34] (fun jv w2 => ∃ (j c5 : Nat) (a5 : Option Addr), jv = .int .i64 (j : Int) ∧ j ≤ ds.length ∧ Hid (NdAt w2 w1 B g n cap i w1.heap.size css2 cs ks a5 j c5)) (fun jv _ => ds.length - (intOf jv).toNat)
    case atStart => exact ⟨0, 0, none, rfl, Nat.zero_le _, HQ1.out.k (by exact Keeps.K)⟩
    case round =>
     clear HQ1
     obtain ⟨j, c5, a5, rfl, hj, hV⟩ := hrel
     have HV := hid hV.out
     clear hV
     have j0 : (0 : Int) ≤ (j : Int) := Int.natCast_nonneg _
     obtain ⟨q1, q2⟩ := HV.out.cells HIC.out HLN.out
     by_cases hjl : j < ds.length
     ·have j1 : (j : Int) < (ds.length : Int) := by omega
      obtain ⟨s, hs⟩ : ∃ s, ds[j]? = some s := ⟨_, List.getElem?_eq_getElem hjl⟩
      obtain ⟨g1, hg1e, hcell⟩ := strL_cell HO1.out hs hjl
      subst hg1e
      have hgg : g1 ≠ g := by
       have := (HO1.out.ge g1 (by simp [mem_ownB, Value.ownBlock])).1
       have := HW.out.2.2.size
       have := HG.out.2.2
       omega
      have hcell := HV.out.2.2.cellSome hcell (by simpa using hgg)
      have hkeep : Keeps [g] w wr := ((HW.out.2.2.trans K1.out (fun _ _ h => by cases h)).trans HV.out.2.2 (fun _ _ h => h))
      have hsm := HDM.out s (List.mem_of_getElem? hs)
      have HK1 : Hid (ks[j]? = some (idx s (l.map (·.f.name)))) := by
       show _ = _
       rw [← HK.out.1, List.getElem?_map, hs]
       rfl
      have hat2 := HAT.out.keep hkeep (by simpa using HG.out.2.1)
      have hlook := fun wx (h : AtMap wx bm (l.map (·.f.name))) => h.look (idx_get hsm.1) hsm.2
      have m1 : wr.cell? ⟨sb, 1, none⟩ = some (.map (some bm)) := hkeep.cellSome (cell_of_block HSB.out 1) (by simpa using HG.out.1)
      obtain ⟨kk, hkk⟩ : ∃ kk, idx s (l.map (·.f.name)) = kk := ⟨_, rfl⟩
      rw [hkk] at hlook HK1
      have HA2 := hid hat2
      have HLK := hid hlook
      have HSM := hid hsm
      have HJ := hid hjl
      clear hs hjl hkeep hsm hat2 hlook
      go_wp2_with fail
      refine Plan.wp_region_plan (fun wx => wx.cell? ⟨g, i * 21 + 20, none⟩ = some (.slice a5 j c5) ∧ wx.cell? ⟨sb, 1, none⟩ = some (.map (some bm)) ∧ (Instr.lookup 64 (.map (some bm)) (.string (str s)) false).run Tryz.prog wx = .ok (.int .i64 (kk : Int)) wx) 13 [(true, 0), (true, 1), (true, 2), (true, 3), (true, 4), (true, 5), (true, 6), (true, 7), (true, 8), (true, 9), (true, 10), (false, 11), (false, 12)] (by kernel_rfl) (by as_aux_lemma => kernel_rfl) (by kernel_rfl) (fun _ _ _ _ _ h => h) ?_ (fun hS => ?_)
      ·exact ⟨q1, m1, HLK.out _ (HA2.out.keep (F := []) (by exact Keeps.K) (by simp))⟩
      simp only [Plan.pick, List.append_eq, List.cons_append, List.nil_append, Plan.g1, Plan.g2, Option.getD_some, List.drop_succ_cons, List.drop_zero]
      iterate 11 (first | refine Plan.tA ?_ | refine Plan.tY ?_ | refine Plan.pN ?_ | refine Plan.pU ?_ | fail)
      refine Plan.step ?_
      go_wp2_with fail
      have KA : Hid (Keeps [] wr (wr.alloc (.cells #[.int .i64 (kk : Int)] 3)).drew) := by show Keeps _ _ _; exact Keeps.K
      have HRW : Hid ((wr.alloc (.cells #[.int .i64 (kk : Int)] 3)).drew.heap[wr.heap.size]? = some (.cells #[.int .i64 (kk : Int)] 3 (0, 0))) := heap_alloc_new wr _
      have m1a := KA.out.cellSome m1 (by simp)
      refine ⟨⟨KA.out.cellSome q1 (by simp), m1a, HLK.out _ (HA2.out.keep KA.out (by simp))⟩, ?_⟩
      refine Plan.step ?_
      go_wp2_with (at_builtin; go_must (refine wpList_appI _ (by rfl) _ _ (by rfl) w1.heap.size (.slice a5 j c5) (by rfl) (ks.take j) j (by have := HK.out.2; have := HJ.out; simp; omega) (ownsRow_keeps HV.out.2.1 KA.out (fun _ _ h => by cases h)) _ (by rfl) kk (Reads.ofBlock (n := 1) HRW.out rfl (by decide)) (by have := HJ.out; omega) (Nat.le_trans HV.out.2.2.size KA.out.size) ?_; intro a7 c7 w7 ho7 hk7 hb7))
      have HOG := hid (fun x hx => (ownB_ge HV.out.2.1 x hx).1)
      have K7 : Hid (Keeps (ownB (.slice a5 j c5)) wr w7) := (KA.out.mono (G := ownB (.slice a5 j c5)) (fun _ _ h => by cases h)).trans hk7.out (fun _ _ h => h)
      have hgo : g ∉ ownB (.slice a5 j c5) := fun hm => by have := HOG.out _ hm; have := HGW.out; omega
      have m1b := K7.out.cellSome m1 (fun hm => by have h9 : w1.heap.size ≤ sb := HOG.out sb hm; have := (Array.getElem?_eq_some_iff.1 HSB.out).1; have := HW.out.2.2.size; have := K1.out.size; omega)
      have hbo : bm ∉ ownB (.slice a5 j c5) := fun hm => by have := HOG.out _ hm; have := HAT.out.lt; have := HW.out.2.2.size; have := K1.out.size; omega
      have HA7 := hid (HA2.out.keep K7.out hbo)
      have q1b := K7.out.cellSome q1 hgo
      refine ⟨⟨q1b, m1b, HLK.out _ HA7.out⟩, ?_⟩
      refine Plan.fin ?_
      have hrow7 := HV.out.1.keep K7.out hgo
      have q2b : w7.frozen? ⟨g, i * 21 + 20, none⟩ = false := (hrow7.cell (c := cs.set 20 (.slice a5 j c5)) (by simp [HIC.out]) (j := 20) (by decide)).2
      clear hrow7 q1 q2 hS
      have HST := hid (NdAt.step HV.out HIC.out HLN.out HGW.out HK1.out ho7.out K7.out rfl)
      go_wp2_with fail
      exact ⟨⟨j + 1, c7, a7, rfl, HJ.out, HST.out.k (by exact Keeps.K)⟩, by have := HJ.out; simp [intOf]; omega⟩
     ·obtain rfl : j = ds.length := by omega
      have hks : ks.take ds.length = ks := List.take_of_length_le (by rw [HK.out.2]; exact Nat.le_refl _)
      have hown := HV.out.2.1
      rw [hks] at hown
      have hsl : (sortN ks).length = ds.length := by rw [(sortN_perm ks).length_eq, HK.out.2]
      have hso := sort_ownI wr w1.heap.size (.slice a5 ds.length c5) ks (by rw [HK.out.2]; exact hown) (by rw [HK.out.2]; omega)
      rw [HK.out.2] at hso
      have HSO := hid hso
      have HSL := hid hsl
      clear hks hown hso hsl
      go_wp2_with fail
      refine HSO.out.mono ?_
      rintro _ w6 ⟨rfl, ho6, hk6⟩
      have HO6 := hid ho6
      have K6 := hid hk6
      have HOG := hid (fun x hx => (ownB_ge HV.out.2.1 x hx).1)
      have hgo : g ∉ ownB (.slice a5 ds.length c5) := fun hm => by have := HOG.out _ hm; have := HGW.out; omega
      have q6 := hk6.cellSome q1 hgo
      have HR6 := hid (HV.out.1.keep hk6 hgo)
      have HOW6 : Hid (OwnAt natsL 66 w6 w.heap.size (fun b => w.heap.size ≤ b ∧ b ∉ ownB (.slice a3 i c3)) (.slice a3 i c3) ((l.take i).map (·.needs))) := by
       refine ((HOW1.out.keep HV.out.2.2 (fun b hb hm => ?_) (fun b hb hm => ?_)).keep hk6 (fun b hb hm => ?_) (fun b hb hm => ?_)).mono (fun b _ h => h.1)
       ·simp at hm; have := HGE1.out b hb; have := HG.out.2.2; omega
       ·simp at hm; have := hb.1.1; have := HG.out.2.2; omega
       ·have := HGE1.out b hb; have := HOG.out b hm; omega
       ·have := hb.2; have := HOG.out b hm; omega
      have HEL6 : Hid (LkEl w6 (fun b => (P b ∨ (w.heap.size ≤ b ∧ b ∉ ownB (.slice a3 i c3))) ∧ b < w1.heap.size) l i css2) := by
       refine (LkEl.keep HEL1.out HV.out.2.2 (fun b hb hm => ?_)).keep hk6 (fun b hb hm => ?_)
       ·simp at hm
        rcases hb.1 with h | h
        ·exact (HP.out b h).1 hm
        ·have := HG.out.2.2; omega
       ·have := hb.2; have := HOG.out b hm; omega
      have KW6 : Hid (Keeps [g] w w6) := (KW1.out.trans HV.out.2.2 (fun _ _ h => h)).trans hk6 (fun b hb hm => by have := HOG.out b hm; have := KW1.out.size; omega)
      have hz6 : w1.heap.size ≤ w6.heap.size := Nat.le_trans HV.out.2.2.size hk6.size
      have HZ6 := hid hz6
      have KA : Hid (Keeps [] w6 (w6.alloc (.cells #[.slice a5 ds.length c5] 66))) := by show Keeps _ _ _; exact Keeps.K
      have HRD : Hid (Reads (w6.alloc (.cells #[.slice a5 ds.length c5] 66)) 1 (.slice a5 ds.length c5) (sortN ks).length (natC (sortN ks))) := by
       show Reads _ _ _ _ _
       rw [HSL.out]
       exact (Reads.ofOwn HO6.out).keeps KA.out (fun _ _ h => by cases h)
      clear ho6 hk6 hgo q1 q2 hz6
      go_wp2_with (at_builtin; go_must (refine wpList_append_off (L := natsL) (PB := fun b => w1.heap.size ≤ b) _ (by rfl) _ _ _ (by rfl) w.heap.size 66 it _ 24 Tryz.underlying82 hi0 hz0 hz1 hz2 rfl (R := fun b => w.heap.size ≤ b) (.slice a3 i c3) (by rfl) ((l.take i).map (·.needs)) [sortN ks] i HTL.out [[.slice a5 ds.length c5]] (HOW6.out.k KA.out) (.slice _ _ _) (by rfl) 1 rfl (ElemsAt.one1 ⟨.slice a5 ds.length c5, rfl, HRD.out, fun _ b hb => HOG.out b hb⟩) (Reads.one1 (heap_alloc_new _ _) rfl) (by omega) (le_maxLen (by omega)) (Nat.le_trans KW6.out.size KA.out.size) (fun b _ hb => ⟨Nat.le_trans KW1.out.size hb, fun hm => by have := HGE1.out b hm; omega⟩) ?_; intro a8 c8 w8 ho8 hk8 hv8))
      have KA8 : Hid (Keeps (ownB (.slice a3 i c3)) w6 w8) := (KA.out.mono (G := ownB (.slice a3 i c3)) (fun _ _ h => by cases h)).trans hk8.out (fun _ _ h => h)
      have hel8 : LkEl w8 (fun b => P b ∨ (w.heap.size ≤ b ∧ b ∉ ownB (.slice a8 (i + 1) c8))) l i css2 := by
       refine (LkEl.keep HEL6.out KA8.out (fun b hb hm => ?_)).mono (fun b _ hb => ?_)
       ·rcases hb.1 with h | h
        ·have := (HP.out b h).2; have := HGE1.out b hm; omega
        ·exact h.2 hm
       ·rcases hb.1 with h | h
        ·exact .inl h
        ·refine .inr ⟨h.1, fun hm => ?_⟩
         rcases hv8.out b hm with h9 | h9
         ·exact h.2 h9
         ·have h10 : w6.heap.size ≤ b := Nat.le_trans KA.out.size h9
          have := hb.2; have := HZ6.out; omega
      have h0 := hel8 i cs _ HCS.out HX.out
      rw [if_neg (Nat.lt_irrefl _)] at h0
      have hgv : g ∉ ownB (.slice a3 i c3) := fun hm => by have := (HGE1.out g hm).1; have := HG.out.2.2; omega
      have hsfx := Sf0At.needs (x := ⟨f, some e, o2, o3, ns⟩) (nv := .slice a5 ds.length c5) h0 (by show Reads _ _ _ ns.length (natC ns); rw [HNS.out]; exact HRD.out.keeps hk8.out (fun b hb hm => by have := HOG.out b hb; have := HGE1.out b hm; omega)) (fun _ b hb => .inr ⟨by have := HOG.out b hb; have := KW1.out.size; omega, fun hm => by
       have hb1 := HOG.out b hb
       have hb2 := (ownB_ge HO6.out b hb).2
       rcases hv8.out b hm with h9 | h9
       ·have := HGE1.out b h9; omega
       ·have h10 : w6.heap.size ≤ b := Nat.le_trans KA.out.size h9
        omega⟩)
      refine ⟨⟨i + 1, c8, a8, rfl, rfl, by have := HI.out; omega, _, ⟨HR6.out.keep KA8.out hgv, HW.out.1.2.1, LkEl.step hel8 HX.out hsfx⟩, ?_, ?_⟩, by have := HI.out; simp [intOf]; omega⟩
      ·rw [HTK.out]
       show OwnAt _ _ _ _ _ _ (_ ++ [ns])
       rw [HNS.out]
       exact ho8.out
      ·exact KW6.out.trans KA8.out (fun b hb hm => by have := HGE1.out b hm; omega)
  ·obtain rfl : i = n := by omega
   go_wp2_with fail
   go_ret
   have hll : l.take i = l := by rw [← HW.out.1.2.1, List.take_length]
   have hls := HW.out.2.1.list (P' := fun _ => True) (fun _ _ _ => trivial) (fun _ _ => trivial)
   rw [hll] at hls
   have hlen : (l.map (·.needs)).length = i := by simpa using HW.out.1.2.1
   exact ⟨a3, c3, css2, rfl, hls, HW.out.1.mono (fun b _ hb => hb.imp id (fun h => h.1)), HW.out.2.2⟩
end Go.Proofs.YtgjiahilbmeaeaaGreatDoor