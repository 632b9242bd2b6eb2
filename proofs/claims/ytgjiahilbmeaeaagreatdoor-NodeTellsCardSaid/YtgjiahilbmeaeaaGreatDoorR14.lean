/- Joined of ScB, ScC. -/
import Derived.Test.YtgjiahilbmeaeaaGreatDoorR12
import Derived.Test.YtgjiahilbmeaeaaGreatDoorR13
set_option maxRecDepth 100000
set_option maxHeartbeats 8000000
set_option linter.unusedSimpArgs false
set_option linter.unusedVariables false
/- A form's field reads its expressions. -/
namespace Go.Proofs.YtgjiahilbmeaeaaGreatDoor
open Go Go.RowKit
structure TE (W0 w : World) : Prop where
 t0 : Tabs W0
 e0 : Errs W0
 k0 : Keeps [] W0 w
theorem TE.tabs {W0 w : World} (h : TE W0 w) : Tabs w := h.t0.k h.k0
theorem TE.errs {W0 w : World} (h : TE W0 w) : Errs w := h.e0.k h.k0
theorem TE.keep {W0 w w' : World} {G : List Nat} (h : TE W0 w) (k : Keeps G w w') (hG : ∀ b ∈ G, W0.heap.size ≤ b) : TE W0 w' := ⟨h.t0, h.e0, h.k0.trans k (fun b hb hb2 => absurd (hG b hb2) (by omega))⟩
theorem TE.k {W0 w w' : World} (h : TE W0 w) (k : Keeps [] w w') : TE W0 w' := h.keep k (fun _ h => by cases h)
def Sf0At (w : World) (P : Nat → Prop) (f : FldD) (o1 o2 o3 : Option ExprD) (cs : List Value) : Prop :=
 ∃ c1 c2 c3, OptAt w P o1 c1 ∧ OptAt w P o2 c2 ∧ OptAt w P o3 c3 ∧
   cs = fldC f ++ (c1 ++ (c2 ++ (c3 ++ [.bool o1.isSome, .bool o2.isSome, .bool o3.isSome, .slice none 0 0])))
theorem Sf0At.len {w : World} {P : Nat → Prop} {f : FldD} {o1 o2 o3 : Option ExprD} {cs : List Value} (h : Sf0At w P f o1 o2 o3 cs) : cs.length = 21 := by
 obtain ⟨c1, c2, c3, h1, h2, h3, rfl⟩ := h
 simp [fldC, h1.len, h2.len, h3.len]
theorem Sf0At.keep {G : List Nat} {w w' : World} {P : Nat → Prop} {f : FldD} {o1 o2 o3 : Option ExprD} {cs : List Value} (h : Sf0At w P f o1 o2 o3 cs) (k : Keeps G w w') (hP : ∀ b, P b → b ∉ G) : Sf0At w' P f o1 o2 o3 cs := by
 obtain ⟨c1, c2, c3, h1, h2, h3, rfl⟩ := h
 exact ⟨c1, c2, c3, h1.keep k hP, h2.keep k hP, h3.keep k hP, rfl⟩
theorem Sf0At.mono {w : World} {P P' : Nat → Prop} {f : FldD} {o1 o2 o3 : Option ExprD} {cs : List Value} (h : Sf0At w P f o1 o2 o3 cs) (hP : ∀ b, b < w.heap.size → P b → P' b) : Sf0At w P' f o1 o2 o3 cs := by
 obtain ⟨c1, c2, c3, h1, h2, h3, rfl⟩ := h
 exact ⟨c1, c2, c3, h1.mono hP, h2.mono hP, h3.mono hP, rfl⟩
theorem Sf0At.one {w : World} {P : Nat → Prop} {f : FldD} {o1 o2 o3 : Option ExprD} {cs : List Value} (h : Sf0At w P f o1 o2 o3 cs) : ∀ u ∈ cs, u.oneCell' = true := by
 obtain ⟨c1, c2, c3, h1, h2, h3, rfl⟩ := h
 intro u hu
 simp only [List.mem_append] at hu
 rcases hu with hu | hu | hu | hu | hu
 ·simp [fldC] at hu
  rcases hu with rfl | rfl | rfl | rfl | rfl <;> rfl
 ·exact h1.one u hu
 ·exact h2.one u hu
 ·exact h3.one u hu
 ·simp at hu
  rcases hu with rfl | rfl | rfl | rfl <;> rfl
def RowAt (w : World) (B g n cap : Nat) (css : List (List Value)) : Prop := w.ownsRow B 80 21 (.slice (some ⟨g, 0, none⟩) n cap) n css.flatten ∧ (∀ c ∈ css, c.length = 21) ∧ css.length = n
theorem RowAt.set {w : World} {B g n cap : Nat} {css : List (List Value)} (h : RowAt w B g n cap css) {i j : Nat} {c : List Value} (hc : css[i]? = some c) (hj : j < 21) (u : Value) : RowAt (w.setCell ⟨g, i * 21 + j, none⟩ u) B g n cap (css.set i (c.set j u)) := by
 have hi := (List.getElem?_eq_some_iff.1 hc).1
 have e : css.getD i [] = c := by rw [List.getD_eq_getElem?_getD, hc]; rfl
 have h1 := ownsRow_set (u := u) h.1 rfl (i * 21 + j)
 rw [flatten_set i j u h.2.1 hj hi, e] at h1
 refine ⟨h1, fun x hx => ?_, by simp [h.2.2]⟩
 rcases List.mem_or_eq_of_mem_set hx with hx | rfl
 ·exact h.2.1 x hx
 ·simp [h.2.1 c (List.mem_of_getElem? hc)]
theorem RowAt.cell {w : World} {B g n cap : Nat} {css : List (List Value)} (h : RowAt w B g n cap css) {i j : Nat} {c : List Value} (hc : css[i]? = some c) (hj : j < 21) : w.cell? ⟨g, i * 21 + j, none⟩ = c[j]? ∧ w.frozen? ⟨g, i * 21 + j, none⟩ = false := by
 obtain ⟨h1, ⟨h2, _⟩ | ⟨g', cap', cur, hv, hb, hg, hn, hm, hs, ht⟩⟩ := h.1
 ·cases h2
 ·simp only [Value.slice.injEq, Option.some.injEq, Addr.mk.injEq, true_and, and_true] at hv
  obtain ⟨rfl, rfl⟩ := hv
  have hi := (List.getElem?_eq_some_iff.1 hc).1
  have hl := h.2.2
  have e := flat_get i j h.2.1 hj hc
  have hlt : i * 21 + j < n * 21 := by omega
  rw [← ht, List.getElem?_take_of_lt hlt, Array.getElem?_toList] at e
  refine ⟨by simp [World.cell?, hg, e], ?_⟩
  have hsz : i * 21 + j < cur.size := by rw [hs]; exact Nat.lt_of_lt_of_le hlt (Nat.mul_le_mul_right 21 hn)
  simp [World.frozen?, hg, hsz]
theorem RowAt.keep {G : List Nat} {w w' : World} {B g n cap : Nat} {css : List (List Value)} (h : RowAt w B g n cap css) (k : Keeps G w w') (hG : g ∉ G) : RowAt w' B g n cap css := by
 refine ⟨ownsRow_keeps h.1 k (fun b hb => ?_), h.2⟩
 simp [mem_ownB, Value.ownBlock] at hb
 subst hb
 exact hG
def ExOk (s : List UInt8) (o : Option ExprD) (names : List ByteArray) (types : List Int) (t : Int) : Prop :=
 match o with
 | none => s = []
 | some e => s ≠ [] ∧ (∃ f, parseP f s e) ∧ ofE e names types = (t, 0)
def sets5 (w : World) (g o h : Nat) (v0 v1 v2 v3 : Value) : World := ((((w.setCell ⟨g, o, none⟩ v0).setCell ⟨g, o + 1, none⟩ v1).setCell ⟨g, o + 2, none⟩ v2).setCell ⟨g, o + 3, none⟩ v3).setCell ⟨g, h, none⟩ (.bool true)
theorem sets5_keeps (w : World) (g o h : Nat) (v0 v1 v2 v3 : Value) : Keeps [g] w (sets5 w g o h v0 v1 v2 v3) := by
 unfold sets5
 exact Keeps.K
theorem list4 {l : List Value} (h : l.length = 4) : ∃ a b c d, l = [a, b, c, d] := by
 match l, h with
 | [a, b, c, d], _ => exact ⟨a, b, c, d, rfl⟩
theorem RowAt.sets5 {w : World} {B g n cap : Nat} {css : List (List Value)} (h : RowAt w B g n cap css) {i k : Nat} {c : List Value} (hc : css[i]? = some c) (hk : k < 3) (v0 v1 v2 v3 : Value) :
 RowAt (sets5 w g (i * 21 + (5 + k * 4)) (i * 21 + (17 + k)) v0 v1 v2 v3) B g n cap (css.set i (((((c.set (5 + k * 4) v0).set (6 + k * 4) v1).set (7 + k * 4) v2).set (8 + k * 4) v3).set (17 + k) (.bool true))) := by
 have hi := (List.getElem?_eq_some_iff.1 hc).1
 have q : ∀ (css' : List (List Value)) (x y : List Value), css'.length = css.length → (css'.set i x)[i]? = some x := fun css' x y hl => by simp [hl, hi]
 have h0 := h.set hc (j := 5 + k * 4) (by omega) v0
 have h1 := h0.set (q css _ [] rfl) (j := 6 + k * 4) (by omega) v1
 rw [List.set_set] at h1
 have h2 := h1.set (q css _ [] rfl) (j := 7 + k * 4) (by omega) v2
 rw [List.set_set] at h2
 have h3 := h2.set (q css _ [] rfl) (j := 8 + k * 4) (by omega) v3
 rw [List.set_set] at h3
 have h4 := h3.set (q css _ [] rfl) (j := 17 + k) (by omega) (.bool true)
 rw [List.set_set] at h4
 unfold Go.Proofs.YtgjiahilbmeaeaaGreatDoor.sets5
 rw [show i * 21 + (5 + k * 4) + 1 = i * 21 + (6 + k * 4) by omega, show i * 21 + (5 + k * 4) + 2 = i * 21 + (7 + k * 4) by omega, show i * 21 + (5 + k * 4) + 3 = i * 21 + (8 + k * 4) by omega]
 exact h4
theorem Sf0At.set0 {w : World} {P : Nat → Prop} {f : FldD} {o1 o2 o3 : Option ExprD} {cs : List Value} {e : ExprD} {v0 v1 v2 v3 : Value} (h : Sf0At w P f o1 o2 o3 cs) (he : ExprAt w P e [v0, v1, v2, v3]) :
 Sf0At w P f (some e) o2 o3 (((((cs.set (5 + 0 * 4) v0).set (6 + 0 * 4) v1).set (7 + 0 * 4) v2).set (8 + 0 * 4) v3).set (17 + 0) (.bool true)) := by
 obtain ⟨c1, c2, c3, h1, h2, h3, rfl⟩ := h
 obtain ⟨x0, x1, x2, x3, rfl⟩ := list4 h1.len
 obtain ⟨y0, y1, y2, y3, rfl⟩ := list4 h2.len
 obtain ⟨z0, z1, z2, z3, rfl⟩ := list4 h3.len
 exact ⟨_, _, _, he, h2, h3, rfl⟩
theorem Sf0At.set1 {w : World} {P : Nat → Prop} {f : FldD} {o1 o2 o3 : Option ExprD} {cs : List Value} {e : ExprD} {v0 v1 v2 v3 : Value} (h : Sf0At w P f o1 o2 o3 cs) (he : ExprAt w P e [v0, v1, v2, v3]) :
 Sf0At w P f o1 (some e) o3 (((((cs.set (5 + 1 * 4) v0).set (6 + 1 * 4) v1).set (7 + 1 * 4) v2).set (8 + 1 * 4) v3).set (17 + 1) (.bool true)) := by
 obtain ⟨c1, c2, c3, h1, h2, h3, rfl⟩ := h
 obtain ⟨x0, x1, x2, x3, rfl⟩ := list4 h1.len
 obtain ⟨y0, y1, y2, y3, rfl⟩ := list4 h2.len
 obtain ⟨z0, z1, z2, z3, rfl⟩ := list4 h3.len
 exact ⟨_, _, _, h1, he, h3, rfl⟩
theorem Sf0At.set2 {w : World} {P : Nat → Prop} {f : FldD} {o1 o2 o3 : Option ExprD} {cs : List Value} {e : ExprD} {v0 v1 v2 v3 : Value} (h : Sf0At w P f o1 o2 o3 cs) (he : ExprAt w P e [v0, v1, v2, v3]) :
 Sf0At w P f o1 o2 (some e) (((((cs.set (5 + 2 * 4) v0).set (6 + 2 * 4) v1).set (7 + 2 * 4) v2).set (8 + 2 * 4) v3).set (17 + 2) (.bool true)) := by
 obtain ⟨c1, c2, c3, h1, h2, h3, rfl⟩ := h
 obtain ⟨x0, x1, x2, x3, rfl⟩ := list4 h1.len
 obtain ⟨y0, y1, y2, y3, rfl⟩ := list4 h2.len
 obtain ⟨z0, z1, z2, z3, rfl⟩ := list4 h3.len
 exact ⟨_, _, _, h1, h2, he, rfl⟩
def osA (k j : Nat) (o : Option ExprD) : Option ExprD := if j < k then o else none
def blankC (f : FldD) : List Value := fldC f ++ ([.int .i64 0, .int .i64 0, .string ⟨#[]⟩, .slice none 0 0] ++ ([.int .i64 0, .int .i64 0, .string ⟨#[]⟩, .slice none 0 0] ++ ([.int .i64 0, .int .i64 0, .string ⟨#[]⟩, .slice none 0 0] ++ [.bool false, .bool false, .bool false, .slice none 0 0])))
theorem Sf0At.blank (w : World) (P : Nat → Prop) (f : FldD) : Sf0At w P f none none none (blankC f) := ⟨_, _, _, rfl, rfl, rfl, rfl⟩
def RoAt (w : World) (B g n cap i : Nat) (css : List (List Value)) (P : Nat → Prop) (f : FldD) (o1 o2 o3 : Option ExprD) : Prop := ∃ cs, Sf0At w P f o1 o2 o3 cs ∧ RowAt w B g n cap (css.set i cs) ∧ i < css.length
theorem RoAt.keep {G : List Nat} {w w' : World} {B g n cap i : Nat} {css : List (List Value)} {P : Nat → Prop} {f : FldD} {o1 o2 o3 : Option ExprD} (h : RoAt w B g n cap i css P f o1 o2 o3) (k : Keeps G w w') (hG : g ∉ G) (hP : ∀ b, P b → b ∉ G) : RoAt w' B g n cap i css P f o1 o2 o3 := by
 obtain ⟨cs, h1, h2, h3⟩ := h
 exact ⟨cs, h1.keep k hP, h2.keep k hG, h3⟩
theorem RoAt.cell {w : World} {B g n cap i : Nat} {css : List (List Value)} {P : Nat → Prop} {f : FldD} {o1 o2 o3 : Option ExprD} (h : RoAt w B g n cap i css P f o1 o2 o3) : g < w.heap.size ∧
 w.cell? ⟨g, i * 21 + 1, none⟩ = some (.int .i64 f.typ) ∧ w.cell? ⟨g, i * 21 + 2, none⟩ = some (.string (str f.formula)) ∧ w.cell? ⟨g, i * 21 + 3, none⟩ = some (.string (str f.rule)) ∧ w.cell? ⟨g, i * 21 + 4, none⟩ = some (.string (str f.shown)) ∧
 ∀ j, j < 21 → w.frozen? ⟨g, i * 21 + j, none⟩ = false ∧ ∃ v, w.cell? ⟨g, i * 21 + j, none⟩ = some v := by
 obtain ⟨cs, h1, h2, h3⟩ := h
 have hc : (css.set i cs)[i]? = some cs := by simp [h3]
 have c := fun j (hj : j < 21) => h2.cell hc hj
 have hg : g < w.heap.size := (ownB_ge h2.1 g (by simp [mem_ownB, Value.ownBlock])).2
 have hl := h1.len
 obtain ⟨c1, c2, c3, q1, q2, q3, rfl⟩ := h1
 refine ⟨hg, (c 1 (by decide)).1, (c 2 (by decide)).1, (c 3 (by decide)).1, (c 4 (by decide)).1, fun j hj => ⟨(c j hj).2, ?_⟩⟩
 rw [(c j hj).1]
 exact ⟨_, List.getElem?_eq_getElem (by rw [hl]; exact hj)⟩
theorem RoAt.set0 {w : World} {B g n cap i : Nat} {css : List (List Value)} {P : Nat → Prop} {f : FldD} {o1 o2 o3 : Option ExprD} {e : ExprD} {v0 v1 v2 v3 : Value} (h : RoAt w B g n cap i css P f o1 o2 o3) (he : ExprAt w P e [v0, v1, v2, v3]) (hP : ∀ b, P b → b ∉ [g]) : RoAt (sets5 w g (i * 21 + (5 + 0 * 4)) (i * 21 + (17 + 0)) v0 v1 v2 v3) B g n cap i css P f (some e) o2 o3 := by
 obtain ⟨cs, h1, h2, h3⟩ := h
 have hc : (css.set i cs)[i]? = some cs := by simp [h3]
 have q := h2.sets5 hc (k := 0) (by decide) v0 v1 v2 v3
 rw [List.set_set] at q
 exact ⟨_, (h1.set0 he).keep (sets5_keeps w g _ _ v0 v1 v2 v3) hP, q, h3⟩
theorem RoAt.set1 {w : World} {B g n cap i : Nat} {css : List (List Value)} {P : Nat → Prop} {f : FldD} {o1 o2 o3 : Option ExprD} {e : ExprD} {v0 v1 v2 v3 : Value} (h : RoAt w B g n cap i css P f o1 o2 o3) (he : ExprAt w P e [v0, v1, v2, v3]) (hP : ∀ b, P b → b ∉ [g]) : RoAt (sets5 w g (i * 21 + (5 + 1 * 4)) (i * 21 + (17 + 1)) v0 v1 v2 v3) B g n cap i css P f o1 (some e) o3 := by
 obtain ⟨cs, h1, h2, h3⟩ := h
 have hc : (css.set i cs)[i]? = some cs := by simp [h3]
 have q := h2.sets5 hc (k := 1) (by decide) v0 v1 v2 v3
 rw [List.set_set] at q
 exact ⟨_, (h1.set1 he).keep (sets5_keeps w g _ _ v0 v1 v2 v3) hP, q, h3⟩
theorem RoAt.set2 {w : World} {B g n cap i : Nat} {css : List (List Value)} {P : Nat → Prop} {f : FldD} {o1 o2 o3 : Option ExprD} {e : ExprD} {v0 v1 v2 v3 : Value} (h : RoAt w B g n cap i css P f o1 o2 o3) (he : ExprAt w P e [v0, v1, v2, v3]) (hP : ∀ b, P b → b ∉ [g]) : RoAt (sets5 w g (i * 21 + (5 + 2 * 4)) (i * 21 + (17 + 2)) v0 v1 v2 v3) B g n cap i css P f o1 o2 (some e) := by
 obtain ⟨cs, h1, h2, h3⟩ := h
 have hc : (css.set i cs)[i]? = some cs := by simp [h3]
 have q := h2.sets5 hc (k := 2) (by decide) v0 v1 v2 v3
 rw [List.set_set] at q
 exact ⟨_, (h1.set2 he).keep (sets5_keeps w g _ _ v0 v1 v2 v3) hP, q, h3⟩
theorem idx3_0 (a b c : Value) (w : World) : (Instr.index 153 (.agg #[a, b, c]) (.int .i64 0)).run Tryz.prog w = .ok a w := by kernel_rfl
theorem idx3_1 (a b c : Value) (w : World) : (Instr.index 153 (.agg #[a, b, c]) (.int .i64 1)).run Tryz.prog w = .ok b w := by kernel_rfl
theorem idx3_2 (a b c : Value) (w : World) : (Instr.index 153 (.agg #[a, b, c]) (.int .i64 2)).run Tryz.prog w = .ok c w := by kernel_rfl
def ReadsEnd (w : World) (B g n cap i : Nat) (css : List (List Value)) (f : FldD) (a b c : Option ExprD) (e : Ending) (w' : World) : Prop := e = .returned (.int .i64 0) ∧ RoAt w' B g n cap i css (fun b => w.heap.size ≤ b) f a b c ∧ Keeps [g] w w'
theorem scReads_ok (fm : FldD) (a b c : Option ExprD) (names : List ByteArray) (types : List Int) (g n cap i B : Nat) (css : List (List Value)) (a1 a2 : Option Addr) (c1 c2 m : Nat) (w : World) (W0 : World) (hTE : TE W0 w) (hW : W0.heap.size ≤ g) (hrow : RoAt w B g n cap i css (fun b => w.heap.size ≤ b) fm none none none) (hn : names.length = m) (hm : types.length = m) (hr1 : Reads w 1 (.slice a1 m c1) m (names.map Value.string)) (hr2 : Reads w 1 (.slice a2 m c2) m (i64s types)) (hg1 : ∀ x ∈ ownB (.slice a1 m c1), x ∉ [g]) (hg2 : ∀ x ∈ ownB (.slice a2 m c2), x ∉ [g]) (h1000 : m ≤ 1000) (ht1 : -2^63 ≤ fm.typ ∧ fm.typ < 2^63) (ha : ExOk fm.formula a names types fm.typ) (hb : ExOk fm.rule b names types 2) (hc : ExOk fm.shown c names types 2) :
 Calls Tryz.prog 28 #[.pointer (some ⟨g, i * 21, none⟩), .slice a1 m c1, .slice a2 m c2] w (ReadsEnd w B g n cap i css fm a b c) := by
 have HTE := hid (fun wx (k : Keeps [g] w wx) => (hTE.keep k (by simpa using hW) : TE W0 wx))
 have HQ := hid (And.intro ha (And.intro hb hc))
 have HN := hid (fun e t wx (k : Keeps [g] w wx) P cs (hat : ExprAt wx P e cs) (hok : exprOk e = true) (h : ofE e names types = (t, 0)) => tyOf_ok e names types t a1 a2 c1 c2 m m cs P wx (HTE.out wx k).tabs (HTE.out wx k).errs hat hn hm (hr1.keeps k hg1) (hr2.keeps k hg2) h1000 hok h)
 obtain ⟨hg0, x1, x2, x3, x4, -⟩ := hrow.cell
 have HR := hid hrow
 clear hTE hrow hn hm hr1 hr2 hg1 hg2 ha hb hc
 obtain ⟨o, ho⟩ : ∃ o, o = i * 21 := ⟨_, rfl⟩
 have HO := hid ho
 rw [← ho] at x1 x2 x3 x4 ⊢
 clear ho
 go_enter Tryz.func28, Tryz.ntmps28
 go_wp2_with fail
 refine Plan.wp_region_plan (fun wx => wx.cell? ⟨g, o + 2, none⟩ = some (.string (str fm.formula)) ∧ wx.cell? ⟨g, o + 3, none⟩ = some (.string (str fm.rule)) ∧ wx.cell? ⟨g, o + 4, none⟩ = some (.string (str fm.shown))) 17 [(true, 0), (true, 1), (true, 2), (true, 3), (true, 4), (true, 5), (true, 6), (true, 7), (true, 8), (true, 9), (true, 10), (true, 11), (true, 12), (true, 13), (true, 14), (true, 15), (true, 16)] (by kernel_rfl) (by as_aux_lemma => kernel_rfl) (by kernel_rfl) (fun _ _ _ _ _ h => h) ?_ (fun hS => ?_)
 ·exact ⟨x2, x3, x4⟩
 simp only [Plan.pick, List.append_eq, List.cons_append, List.nil_append, Plan.g1, Plan.g2, Option.getD_some, List.drop_succ_cons, List.drop_zero]
 iterate 17 (first | refine Plan.tA ?_ | refine Plan.tY ?_ | refine Plan.pN ?_ | refine Plan.pU ?_ | fail)
 refine Plan.fin ?_
 clear hS x1 x2 x3 x4
 have hg9 : g < w.heap.size := hg0
 go_wp2_with fail
 go_loopw [29] (fun iv wr => ∃ k : Nat, iv = .int .i64 (k : Int) ∧ k ≤ 3 ∧ Hid (RoAt wr B g n cap i css (fun b => w.heap.size ≤ b) fm (osA k 0 a) (osA k 1 b) (osA k 2 c) ∧ Keeps [g] w wr)) (fun iv _ => 3 - (intOf iv).toNat)
 case atStart => exact ⟨0, rfl, by decide, HR.out.keep (G := []) (by exact Keeps.K) (by simp) (fun _ _ => by simp), by exact Keeps.K⟩
 case round =>
  clear HR
  obtain ⟨k, rfl, hk, hW⟩ := hrel
  by_cases hlt : k < 3
  ·have h3 : k = 0 ∨ k = 1 ∨ k = 2 := by omega
   rcases h3 with rfl | rfl | rfl
   ·have HRD := hid hW.out
    clear hW hk hlt
    rw [show ((0 : Nat) : Int) = 0 from rfl]
    have ix := idx3_0
    rcases a with _ | e
    ·have hs : fm.formula = [] := HQ.out.1
     have hq : str fm.formula = ⟨#[]⟩ := by rw [hs]; rfl
     clear hs
     go_wp2_with fail
     exact ⟨⟨1, rfl, by decide, HRD.out⟩, by simp [intOf]⟩
    ·have HX := hid HQ.out.1
     have hq : fm.formula.isEmpty = false := List.isEmpty_eq_false_iff.2 HX.out.1
     have hcs : ∀ wx, Keeps [g] w wx → Calls Tryz.prog 80 #[.string (str fm.formula)] wx (ParseEnd wx e) := by
      obtain ⟨f, hf⟩ := HX.out.2.1
      exact fun wx k => paParse_ok f _ e wx (HTE.out wx k).tabs (HTE.out wx k).errs hf
     have HCS := hid hcs
     clear hcs
     go_wp2_with fail
     refine (HCS.out _ HRD.out.2).mono ?_
     rintro x w1 ⟨cs, rfl, hx, hk1⟩
     obtain ⟨op, nn, s, ks⟩ := e
     obtain ⟨a9, c9, rfl, -⟩ := ExprAt.parts hx
     have HX1 := hid hx
     have HK1 := hid hk1
     clear hx hk1
     go_wp2_with fail
     have KA : Hid (Keeps [] wr (w1.alloc (.cells #[.int .i64 op, .int .i64 nn, .string s, .slice a9 ks.length c9] 76))) := HK1.out.alloc _
     have HOK : Hid (exprOk (.mk op nn s ks) = true) := HX.out.2.1.elim fun f hf => hf.2.2.2.2
     refine (HN.out _ fm.typ _ (HRD.out.2.trans KA.out (fun _ _ h => by cases h)) _ _ (ExprAt.keep ((Keeps.refl [] w1).alloc _) (fun _ _ => by simp) HX1.out) HOK.out HX.out.2.2).mono ?_
     rintro x w2 ⟨rfl, hk2⟩
     have K2 : Hid (Keeps [] wr w2) := KA.out.trans hk2 (fun _ _ h => h)
     have HB2 : Hid (w2.heap[w1.heap.size]? = some (.cells #[.int .i64 op, .int .i64 nn, .string s, .slice a9 ks.length c9] 76 (0, 0))) := (hk2.block w1.heap.size (by simp) (by simp)).trans (heap_alloc_new w1 _)
     have HX2 := hid (ExprAt.keep (((Keeps.refl [] w1).alloc (.cells #[.int .i64 op, .int .i64 nn, .string s, .slice a9 ks.length c9] 76)).trans hk2 (fun _ _ h => h)) (fun _ _ => by simp) HX1.out)
     have HRD2 := hid (HRD.out.1.keep K2.out (by simp) (fun _ _ => by simp))
     have hgw : g < w1.heap.size := Nat.lt_of_lt_of_le hg9 (Nat.le_trans HRD.out.2.size HK1.out.size)
     have HGW := hid hgw
     obtain ⟨-, x1, -, -, -, xx⟩ := HRD2.out.cell
     rw [← HO.out] at x1 xx
     obtain ⟨p0, u0, q0⟩ := xx 5 (by decide)
     obtain ⟨p1, u1, q1⟩ := xx 6 (by decide)
     obtain ⟨p2, u2, q2⟩ := xx 7 (by decide)
     obtain ⟨p3, u3, q3⟩ := xx 8 (by decide)
     obtain ⟨p4, u4, q4⟩ := xx 17 (by decide)
     obtain ⟨-, y0, y1, y2, y3, -⟩ := zexpr HB2.out
     have hne : ¬ w1.heap.size = g := by omega
     have hne2 : ¬ g = w1.heap.size := by omega
     clear xx hk2 hq
     go_wp2_with fail
     refine Plan.wp_region_plan (fun wx => wx.cell? ⟨w1.heap.size, 0, none⟩ = some (.int .i64 op) ∧ wx.cell? ⟨w1.heap.size, 1, none⟩ = some (.int .i64 nn) ∧ wx.cell? ⟨w1.heap.size, 2, none⟩ = some (.string s) ∧ wx.cell? ⟨w1.heap.size, 3, none⟩ = some (.slice a9 ks.length c9)) 13 [(true, 0), (true, 1), (true, 2), (true, 3), (true, 4), (true, 5), (true, 6), (true, 7), (true, 9), (true, 10), (false, 8), (true, 11), (false, 12)] (by kernel_rfl) (by as_aux_lemma => kernel_rfl) (by kernel_rfl) (fun _ _ _ _ _ h => h) ?_ (fun hS => ?_)
     (·go_simp)
     simp only [Plan.pick, List.append_eq, List.cons_append, List.nil_append, Plan.g1, Plan.g2, Option.getD_some, List.drop_succ_cons, List.drop_zero]
     iterate 10 (first | refine Plan.tA ?_ | refine Plan.tY ?_ | refine Plan.pN ?_ | refine Plan.pU ?_ | fail)
     refine Plan.step ?_
     go_wp2_with fail
     refine ⟨by go_simp, ?_⟩
     iterate 1 (first | refine Plan.tA ?_ | refine Plan.tY ?_ | refine Plan.pN ?_ | refine Plan.pU ?_ | fail)
     refine Plan.step ?_
     go_wp2_with fail
     refine ⟨by go_simp, ?_⟩
     refine Plan.fin ?_
     clear hS
     go_wp2_with fail
     have hs := RoAt.set0 (g := g) (i := i) HRD2.out (ExprAt.mono (fun b _ hb => Nat.le_trans HRD.out.2.size hb) HX2.out) (fun b hb hm => by simp at hm; omega)
     have hk := sets5_keeps w2 g (i * 21 + (5 + 0 * 4)) (i * 21 + (17 + 0)) (.int .i64 op) (.int .i64 nn) (.string s) (.slice a9 ks.length c9)
     unfold sets5 at hs hk
     rw [← HO.out] at hs hk
     have hs2 := hs.keep (G := []) ((Keeps.refl [] _).drew) (by simp) (fun _ _ => by simp)
     have hk2 := ((HRD.out.2.trans K2.out (fun _ _ h => by cases h)).trans hk (fun _ _ h => h)).drew
     exact ⟨⟨1, rfl, by decide, hs2, hk2⟩, by simp [intOf]⟩
   ·have HRD := hid hW.out
    clear hW hk hlt
    rw [show ((1 : Nat) : Int) = 1 from rfl]
    have ix := idx3_1
    rcases b with _ | e
    ·have hs : fm.rule = [] := HQ.out.2.1
     have hq : str fm.rule = ⟨#[]⟩ := by rw [hs]; rfl
     clear hs
     go_wp2_with fail
     exact ⟨⟨2, rfl, by decide, HRD.out⟩, by simp [intOf]⟩
    ·have HX := hid HQ.out.2.1
     have hq : fm.rule.isEmpty = false := List.isEmpty_eq_false_iff.2 HX.out.1
     have hcs : ∀ wx, Keeps [g] w wx → Calls Tryz.prog 80 #[.string (str fm.rule)] wx (ParseEnd wx e) := by
      obtain ⟨f, hf⟩ := HX.out.2.1
      exact fun wx k => paParse_ok f _ e wx (HTE.out wx k).tabs (HTE.out wx k).errs hf
     have HCS := hid hcs
     clear hcs
     go_wp2_with fail
     refine (HCS.out _ HRD.out.2).mono ?_
     rintro x w1 ⟨cs, rfl, hx, hk1⟩
     obtain ⟨op, nn, s, ks⟩ := e
     obtain ⟨a9, c9, rfl, -⟩ := ExprAt.parts hx
     have HX1 := hid hx
     have HK1 := hid hk1
     clear hx hk1
     go_wp2_with fail
     have KA : Hid (Keeps [] wr (w1.alloc (.cells #[.int .i64 op, .int .i64 nn, .string s, .slice a9 ks.length c9] 76))) := HK1.out.alloc _
     have HOK : Hid (exprOk (.mk op nn s ks) = true) := HX.out.2.1.elim fun f hf => hf.2.2.2.2
     refine (HN.out _ 2 _ (HRD.out.2.trans KA.out (fun _ _ h => by cases h)) _ _ (ExprAt.keep ((Keeps.refl [] w1).alloc _) (fun _ _ => by simp) HX1.out) HOK.out HX.out.2.2).mono ?_
     rintro x w2 ⟨rfl, hk2⟩
     have K2 : Hid (Keeps [] wr w2) := KA.out.trans hk2 (fun _ _ h => h)
     have HB2 : Hid (w2.heap[w1.heap.size]? = some (.cells #[.int .i64 op, .int .i64 nn, .string s, .slice a9 ks.length c9] 76 (0, 0))) := (hk2.block w1.heap.size (by simp) (by simp)).trans (heap_alloc_new w1 _)
     have HX2 := hid (ExprAt.keep (((Keeps.refl [] w1).alloc (.cells #[.int .i64 op, .int .i64 nn, .string s, .slice a9 ks.length c9] 76)).trans hk2 (fun _ _ h => h)) (fun _ _ => by simp) HX1.out)
     have HRD2 := hid (HRD.out.1.keep K2.out (by simp) (fun _ _ => by simp))
     have hgw : g < w1.heap.size := Nat.lt_of_lt_of_le hg9 (Nat.le_trans HRD.out.2.size HK1.out.size)
     have HGW := hid hgw
     obtain ⟨-, x1, -, -, -, xx⟩ := HRD2.out.cell
     rw [← HO.out] at x1 xx
     obtain ⟨p0, u0, q0⟩ := xx 9 (by decide)
     obtain ⟨p1, u1, q1⟩ := xx 10 (by decide)
     obtain ⟨p2, u2, q2⟩ := xx 11 (by decide)
     obtain ⟨p3, u3, q3⟩ := xx 12 (by decide)
     obtain ⟨p4, u4, q4⟩ := xx 18 (by decide)
     obtain ⟨-, y0, y1, y2, y3, -⟩ := zexpr HB2.out
     have hne : ¬ w1.heap.size = g := by omega
     have hne2 : ¬ g = w1.heap.size := by omega
     clear xx hk2 hq
     go_wp2_with fail
     refine Plan.wp_region_plan (fun wx => wx.cell? ⟨w1.heap.size, 0, none⟩ = some (.int .i64 op) ∧ wx.cell? ⟨w1.heap.size, 1, none⟩ = some (.int .i64 nn) ∧ wx.cell? ⟨w1.heap.size, 2, none⟩ = some (.string s) ∧ wx.cell? ⟨w1.heap.size, 3, none⟩ = some (.slice a9 ks.length c9)) 13 [(true, 0), (true, 1), (true, 2), (true, 3), (true, 4), (true, 5), (true, 6), (true, 7), (true, 9), (true, 10), (false, 8), (true, 11), (false, 12)] (by kernel_rfl) (by as_aux_lemma => kernel_rfl) (by kernel_rfl) (fun _ _ _ _ _ h => h) ?_ (fun hS => ?_)
     (·go_simp)
     simp only [Plan.pick, List.append_eq, List.cons_append, List.nil_append, Plan.g1, Plan.g2, Option.getD_some, List.drop_succ_cons, List.drop_zero]
     iterate 10 (first | refine Plan.tA ?_ | refine Plan.tY ?_ | refine Plan.pN ?_ | refine Plan.pU ?_ | fail)
     refine Plan.step ?_
     go_wp2_with fail
     refine ⟨by go_simp, ?_⟩
     iterate 1 (first | refine Plan.tA ?_ | refine Plan.tY ?_ | refine Plan.pN ?_ | refine Plan.pU ?_ | fail)
     refine Plan.step ?_
     go_wp2_with fail
     refine ⟨by go_simp, ?_⟩
     refine Plan.fin ?_
     clear hS
     go_wp2_with fail
     have hs := RoAt.set1 (g := g) (i := i) HRD2.out (ExprAt.mono (fun b _ hb => Nat.le_trans HRD.out.2.size hb) HX2.out) (fun b hb hm => by simp at hm; omega)
     have hk := sets5_keeps w2 g (i * 21 + (5 + 1 * 4)) (i * 21 + (17 + 1)) (.int .i64 op) (.int .i64 nn) (.string s) (.slice a9 ks.length c9)
     unfold sets5 at hs hk
     rw [← HO.out] at hs hk
     have hs2 := hs.keep (G := []) ((Keeps.refl [] _).drew) (by simp) (fun _ _ => by simp)
     have hk2 := ((HRD.out.2.trans K2.out (fun _ _ h => by cases h)).trans hk (fun _ _ h => h)).drew
     exact ⟨⟨2, rfl, by decide, hs2, hk2⟩, by simp [intOf]⟩
   ·have HRD := hid hW.out
    clear hW hk hlt
    rw [show ((2 : Nat) : Int) = 2 from rfl]
    have ix := idx3_2
    rcases c with _ | e
    ·have hs : fm.shown = [] := HQ.out.2.2
     have hq : str fm.shown = ⟨#[]⟩ := by rw [hs]; rfl
     clear hs
     go_wp2_with fail
     exact ⟨⟨3, rfl, by decide, HRD.out⟩, by simp [intOf]⟩
    ·have HX := hid HQ.out.2.2
     have hq : fm.shown.isEmpty = false := List.isEmpty_eq_false_iff.2 HX.out.1
     have hcs : ∀ wx, Keeps [g] w wx → Calls Tryz.prog 80 #[.string (str fm.shown)] wx (ParseEnd wx e) := by
      obtain ⟨f, hf⟩ := HX.out.2.1
      exact fun wx k => paParse_ok f _ e wx (HTE.out wx k).tabs (HTE.out wx k).errs hf
     have HCS := hid hcs
     clear hcs
     go_wp2_with fail
     refine (HCS.out _ HRD.out.2).mono ?_
     rintro x w1 ⟨cs, rfl, hx, hk1⟩
     obtain ⟨op, nn, s, ks⟩ := e
     obtain ⟨a9, c9, rfl, -⟩ := ExprAt.parts hx
     have HX1 := hid hx
     have HK1 := hid hk1
     clear hx hk1
     go_wp2_with fail
     have KA : Hid (Keeps [] wr (w1.alloc (.cells #[.int .i64 op, .int .i64 nn, .string s, .slice a9 ks.length c9] 76))) := HK1.out.alloc _
     have HOK : Hid (exprOk (.mk op nn s ks) = true) := HX.out.2.1.elim fun f hf => hf.2.2.2.2
     refine (HN.out _ 2 _ (HRD.out.2.trans KA.out (fun _ _ h => by cases h)) _ _ (ExprAt.keep ((Keeps.refl [] w1).alloc _) (fun _ _ => by simp) HX1.out) HOK.out HX.out.2.2).mono ?_
     rintro x w2 ⟨rfl, hk2⟩
     have K2 : Hid (Keeps [] wr w2) := KA.out.trans hk2 (fun _ _ h => h)
     have HB2 : Hid (w2.heap[w1.heap.size]? = some (.cells #[.int .i64 op, .int .i64 nn, .string s, .slice a9 ks.length c9] 76 (0, 0))) := (hk2.block w1.heap.size (by simp) (by simp)).trans (heap_alloc_new w1 _)
     have HX2 := hid (ExprAt.keep (((Keeps.refl [] w1).alloc (.cells #[.int .i64 op, .int .i64 nn, .string s, .slice a9 ks.length c9] 76)).trans hk2 (fun _ _ h => h)) (fun _ _ => by simp) HX1.out)
     have HRD2 := hid (HRD.out.1.keep K2.out (by simp) (fun _ _ => by simp))
     have hgw : g < w1.heap.size := Nat.lt_of_lt_of_le hg9 (Nat.le_trans HRD.out.2.size HK1.out.size)
     have HGW := hid hgw
     obtain ⟨-, x1, -, -, -, xx⟩ := HRD2.out.cell
     rw [← HO.out] at x1 xx
     obtain ⟨p0, u0, q0⟩ := xx 13 (by decide)
     obtain ⟨p1, u1, q1⟩ := xx 14 (by decide)
     obtain ⟨p2, u2, q2⟩ := xx 15 (by decide)
     obtain ⟨p3, u3, q3⟩ := xx 16 (by decide)
     obtain ⟨p4, u4, q4⟩ := xx 19 (by decide)
     obtain ⟨-, y0, y1, y2, y3, -⟩ := zexpr HB2.out
     have hne : ¬ w1.heap.size = g := by omega
     have hne2 : ¬ g = w1.heap.size := by omega
     clear xx hk2 hq
     go_wp2_with fail
     refine Plan.wp_region_plan (fun wx => wx.cell? ⟨w1.heap.size, 0, none⟩ = some (.int .i64 op) ∧ wx.cell? ⟨w1.heap.size, 1, none⟩ = some (.int .i64 nn) ∧ wx.cell? ⟨w1.heap.size, 2, none⟩ = some (.string s) ∧ wx.cell? ⟨w1.heap.size, 3, none⟩ = some (.slice a9 ks.length c9)) 13 [(true, 0), (true, 1), (true, 2), (true, 3), (true, 4), (true, 5), (true, 6), (true, 7), (true, 9), (true, 10), (false, 8), (true, 11), (false, 12)] (by kernel_rfl) (by as_aux_lemma => kernel_rfl) (by kernel_rfl) (fun _ _ _ _ _ h => h) ?_ (fun hS => ?_)
     (·go_simp)
     simp only [Plan.pick, List.append_eq, List.cons_append, List.nil_append, Plan.g1, Plan.g2, Option.getD_some, List.drop_succ_cons, List.drop_zero]
     iterate 10 (first | refine Plan.tA ?_ | refine Plan.tY ?_ | refine Plan.pN ?_ | refine Plan.pU ?_ | fail)
     refine Plan.step ?_
     go_wp2_with fail
     refine ⟨by go_simp, ?_⟩
     iterate 1 (first | refine Plan.tA ?_ | refine Plan.tY ?_ | refine Plan.pN ?_ | refine Plan.pU ?_ | fail)
     refine Plan.step ?_
     go_wp2_with fail
     refine ⟨by go_simp, ?_⟩
     refine Plan.fin ?_
     clear hS
     go_wp2_with fail
     have hs := RoAt.set2 (g := g) (i := i) HRD2.out (ExprAt.mono (fun b _ hb => Nat.le_trans HRD.out.2.size hb) HX2.out) (fun b hb hm => by simp at hm; omega)
     have hk := sets5_keeps w2 g (i * 21 + (5 + 2 * 4)) (i * 21 + (17 + 2)) (.int .i64 op) (.int .i64 nn) (.string s) (.slice a9 ks.length c9)
     unfold sets5 at hs hk
     rw [← HO.out] at hs hk
     have hs2 := hs.keep (G := []) ((Keeps.refl [] _).drew) (by simp) (fun _ _ => by simp)
     have hk2 := ((HRD.out.2.trans K2.out (fun _ _ h => by cases h)).trans hk (fun _ _ h => h)).drew
     exact ⟨⟨3, rfl, by decide, hs2, hk2⟩, by simp [intOf]⟩
  ·obtain rfl : k = 3 := by omega
   go_wp2_with fail
   go_ret
   exact ⟨rfl, hW.out.1, hW.out.2⟩
end Go.Proofs.YtgjiahilbmeaeaaGreatDoor