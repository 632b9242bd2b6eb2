/- Joined of PsE, ScA, GrA. -/
import Derived.Test.YtgjiahilbmeaeaaGreatDoorPsD
import Derived.Test.YtgjiahilbmeaeaaGreatDoorR02
import Derived.Test.YtgjiahilbmeaeaaGreatDoorR06
set_option maxRecDepth 100000
set_option maxHeartbeats 8000000
set_option linter.unusedSimpArgs false
set_option linter.unusedVariables false
/- The parser: all tokens as an expression; a formula's text. -/
namespace Go.Proofs.YtgjiahilbmeaeaaGreatDoor
open Go Go.RowKit
theorem parser_all : ∀ f, (∀ g, g ≤ f → OneC g) ∧ (∀ g, g ≤ f → TwoC g) ∧ (∀ g, g ≤ f → NamedC g)
 | 0 => by
   refine ⟨fun g hg => ?_, fun g hg => ?_, fun g hg => ?_⟩
   ·obtain rfl : g = 0 := by omega
    intro l i eD j p a c T w h hp
    rw [oneP] at hp
    cases hp
   ·obtain rfl : g = 0 := by omega
    intro n l i eD j p a c T w hn h hp
    rw [twoP] at hp
    cases hp
   ·obtain rfl : g = 0 := by omega
    intro l i s eD j p a c T w h hp
    rw [namedP] at hp
    cases hp
 | f + 1 => by
   obtain ⟨h1, h2, h3⟩ := parser_all f
   refine ⟨fun g hg => ?_, fun g hg => ?_, fun g hg => ?_⟩
   ·rcases Nat.lt_or_eq_of_le hg with hl | rfl
    ·exact h1 g (by omega)
    ·exact paOne_step f (h1 f (Nat.le_refl _)) (h2 f (Nat.le_refl _)) (h3 f (Nat.le_refl _))
   ·rcases Nat.lt_or_eq_of_le hg with hl | rfl
    ·exact h2 g (by omega)
    ·exact paTwo_step f (h1 f (Nat.le_refl _)) h2
   ·rcases Nat.lt_or_eq_of_le hg with hl | rfl
    ·exact h3 g (by omega)
    ·exact paNamed_step f h1 h2
theorem paTwo_all (f : Nat) : TwoC f := (parser_all f).2.1 f (Nat.le_refl _)
theorem read1_idle (a b c : Value) (w : World) :
 CallsD Tryz.prog 192 #[a, b, c] .returning w fun e u' w' => e = .returned (.tuple #[]) ∧ u' = .returning ∧ w' = w := by
 refine callsD_of_wpS Tryz.func192 rfl fun c₀ cs hu => ?_
 apply wpS_seq
 apply wpS_region
 simp [wpOpsS, go_sem, recoverD, hu, Tryz.ntmps192, Exit.thenS]
 rw [show (#[a, b, c] ++ ((Array.replicate 8 undef).setIfInBounds 1 .nilIface).setIfInBounds 0 .nilIface : Array Value) = #[a, b, c, .nilIface, .nilIface, undef, undef, undef, undef, undef, undef] from rfl]
 refine wpS_of_wp ?_
 go_wp2_with fail
 refine ⟨rfl, .returning, by cases c₀; simp_all, _, ?_, rfl, rfl, rfl⟩
 simp [results, Tryz.results192, go_sem]
theorem results_read {fn : Func} (hr : fn.results = #[.cell 2 76, .cell 3 3, .cell 4 4]) {tmps : Array Value} {W : World} {b c d : Nat} {v0 v1 v2 v3 v4 v5 : Value} (h2 : tmps.getD 2 undef = .pointer (some ⟨b, 0, none⟩)) (h3 : tmps.getD 3 undef = .pointer (some ⟨c, 0, none⟩)) (h4 : tmps.getD 4 undef = .pointer (some ⟨d, 0, none⟩)) (h : W.heap[b]? = some (.cells #[v0, v1, v2, v3] 76 (0, 0))) (e4 : W.cell? ⟨c, 0, none⟩ = some v4) (e5 : W.cell? ⟨d, 0, none⟩ = some v5) :
 (results fn tmps).run Tryz.prog W = .ok (.tuple #[.agg #[v0, v1, v2, v3], v4, v5]) W := by
 obtain ⟨b0, e0, e1, e2, e3, f0, f1, f2, f3⟩ := zexpr h
 clear h
 rw [Array.getD_eq_getD_getElem?] at h2 h3 h4
 simp [results, hr, h2, h3, h4, go_sem, e0, e1, e2, e3, e4, e5]
theorem results_parse {fn : Func} (hr : fn.results = #[.cell 2 76, .tmp 3, .tmp 4]) {tmps : Array Value} {W : World} {b : Nat} {v0 v1 v2 v3 v4 v5 : Value} (h2 : tmps.getD 2 undef = .pointer (some ⟨b, 0, none⟩)) (h34 : (tmps.getD 3 undef, tmps.getD 4 undef) = (v4, v5)) (h : W.heap[b]? = some (.cells #[v0, v1, v2, v3] 76 (0, 0))) :
 (results fn tmps).run Tryz.prog W = .ok (.tuple #[.agg #[v0, v1, v2, v3], v4, v5]) W := by
 obtain ⟨b0, e0, e1, e2, e3, f0, f1, f2, f3⟩ := zexpr h
 clear h
 obtain ⟨h3, h4⟩ := Prod.mk.inj h34
 rw [Array.getD_eq_getD_getElem?] at h2 h3 h4
 simp [results, hr, h2, h3, h4, go_sem, e0, e1, e2, e3]
theorem new4H (w : World) (o1 o2 o3 o4 : Obj) : ((((w.alloc o1).alloc o2).alloc o3).alloc o4).heap[w.heap.size]? = some o1 ∧ ((((w.alloc o1).alloc o2).alloc o3).alloc o4).heap[w.heap.size + 1]? = some o2 ∧ ((((w.alloc o1).alloc o2).alloc o3).alloc o4).heap[w.heap.size + 1 + 1]? = some o3 ∧ ((((w.alloc o1).alloc o2).alloc o3).alloc o4).heap[w.heap.size + 1 + 1 + 1]? = some o4 := by
 have h1 := heap_alloc_new w o1
 have h2 := heap_alloc_new (w.alloc o1) o2
 have h3 := heap_alloc_new ((w.alloc o1).alloc o2) o3
 have h4 := heap_alloc_new (((w.alloc o1).alloc o2).alloc o3) o4
 simp only [World.size_alloc] at h2 h3 h4
 exact ⟨alloc_old (alloc_old (alloc_old h1)), alloc_old (alloc_old h2), alloc_old h3, h4⟩
def ReadEnd (w : World) (eD : ExprD) (e : Ending) (w' : World) : Prop :=
 ∃ cs, e = .returned (.tuple #[.agg cs.toArray, .int .i64 0, .bool true]) ∧ ExprAt w' (fun b => w.heap.size ≤ b) eD cs ∧ Keeps [] w w'
theorem paRead_ok (f : Nat) (l : List TokD) (eD : ExprD) (j : Nat) (a : Option Addr) (c : Nat) (T : Nat → Prop) (w : World) (hl : ListAt tokL w T (.slice a l.length c) l) (hT : ∀ b, T b → b < w.heap.size) (he : EndsL l) (hn : 0 < l.length) (hp : readP f l = some (.ok (eD, j))) :
 Calls Tryz.prog 141 #[.slice a l.length c] w (ReadEnd w eD) := by
 have hr : twoP f 0 l 0 = some (.ok (eD, j)) ∧ (tokAt l j).kind = 0 := by
  unfold readP at hp
  split at hp <;> try cases hp
  rename_i h1
  split at hp <;> try cases hp
  rename_i hk
  exact ⟨h1, by simpa using hk⟩
 have HR := hid hr
 have HL := hid hl
 have HTT := hid hT
 have HE := hid (And.intro he hn)
 have hcs : ∀ p wx, PaAt wx p a c T l 0 → Calls Tryz.prog 193 #[.pointer (some ⟨p, 0, none⟩), .int .i64 0] wx (PaEnd wx p a c T l eD j) := fun p wx hx => paTwo_all f 0 l 0 eD j p a c T wx (by decide) hx hr.1
 have HCS := hid hcs
 have hmf : ∀ (fn : Fn) (first cap : Array Value) (w : World), (Instr.makeFunc fn first cap).run Tryz.prog w = .ok (.func fn first cap) w := fun _ _ _ _ => rfl
 clear hr hl hT he hn hp hcs
 go_enter_defers Tryz.func141, Tryz.ntmps141
 go_wp2_with fail
 have hn := new4H w (.cells #[.int .i64 0, .int .i64 0, .string ⟨#[]⟩, .slice none 0 0] 76) (.cells #[.int .i64 0] 3) (.cells #[.bool false] 4) (.cells #[.slice a l.length c, .int .i64 0] 296)
 have k0 : Keeps [] w ((((w.alloc (.cells #[.int .i64 0, .int .i64 0, .string ⟨#[]⟩, .slice none 0 0] 76)).alloc (.cells #[.int .i64 0] 3)).alloc (.cells #[.bool false] 4)).alloc (.cells #[.slice a l.length c, .int .i64 0] 296)) := by exact Keeps.K
 obtain ⟨w0, hw0⟩ : ∃ x, x = ((((w.alloc (.cells #[.int .i64 0, .int .i64 0, .string ⟨#[]⟩, .slice none 0 0] 76)).alloc (.cells #[.int .i64 0] 3)).alloc (.cells #[.bool false] 4)).alloc (.cells #[.slice a l.length c, .int .i64 0] 296)) := ⟨_, rfl⟩
 rw [← hw0] at hn k0 ⊢
 clear hw0
 obtain ⟨n1, n2, n3, n4⟩ := hn
 have hp0 : PaAt w0 (w.heap.size + 1 + 1 + 1) a c T l 0 := ⟨HL.out.k k0, fun h => by have := HTT.out _ h; omega, n4, HE.out.1, HE.out.2⟩
 refine (HCS.out _ _ hp0).mono ?_
 rintro e w1 ⟨cs, rfl, hx1, hp1, hk1⟩
 have hs0 := (Array.getElem?_eq_some_iff.1 n4).1
 have HB1 := hid ((hk1.block w.heap.size (by omega) (by simp; omega)).trans n1)
 have HC1 := hid ((hk1.block (w.heap.size + 1) (by omega) (by simp)).trans n2)
 have HD1 := hid ((hk1.block (w.heap.size + 1 + 1) (by omega) (by simp)).trans n3)
 obtain ⟨o0, n0, s0, l0⟩ := eD
 obtain ⟨a9, c9, rfl, hls⟩ := ExprAt.parts hx1
 have HX1 := hid (ExprAt.mono (P' := fun b => w.heap.size + 1 + 1 < b) (fun b _ hb => by omega) hx1)
 obtain ⟨gg, off, t, rfl, ht, htk, hgp, hg, hpq, x0, x1, y0, y1, y2, y3⟩ := hp1.cells
 have hgw : gg < w.heap.size := by
  obtain ⟨b, o, c', hv, -, -, hb, -⟩ := HL.out.addr (by intro e; have := HE.out.2; rw [e] at this; simp at this)
  simp only [Value.slice.injEq, Option.some.injEq, Addr.mk.injEq] at hv
  rw [hv.1.1]
  exact hb
 have hgn : ¬ gg = w.heap.size := by omega
 have HK1 := hid (k0.trans (hk1.mono (G := [w.heap.size + 1 + 1 + 1]) (fun _ _ h => h)) (fun b hb e => by simp at e; omega))
 have hj0 : (0 : Int) ≤ (j : Int) := Int.natCast_nonneg _
 have hj1 : (j : Int) < (l.length : Int) := by have := hp1.2.2.2.2; omega
 have hkd : t.kind = 0 := by rw [← htk]; exact HR.out.2
 rw [hkd] at y0
 obtain ⟨b1, z0, z1, z2, z3, h0, h1, h2, h3⟩ := zexpr HB1.out
 have c0 := cell_of_block HC1.out 0
 have d0 := cell_of_block HD1.out 0
 have cf := frozen_of_row w1 _ 0 _ _ HC1.out
 have df := frozen_of_row w1 _ 0 _ _ HD1.out
 have bc := (Array.getElem?_eq_some_iff.1 HC1.out).1
 have bd := (Array.getElem?_eq_some_iff.1 HD1.out).1
 clear hx1 hp1 hk1 hls ht htk hgp hkd n1 n2 n3 n4 hp0 HCS k0 hs0
 go_wp2_with fail
 have e1 := set4 HB1.out (.int .i64 o0) (.int .i64 n0) (.string s0) (.slice a9 l0.length c9)
 have e2 := set4 e1 (.int .i64 o0) (.int .i64 n0) (.string s0) (.slice a9 l0.length c9)
 have k1 := (sets4_keeps w1 w.heap.size (.int .i64 o0) (.int .i64 n0) (.string s0) (.slice a9 l0.length c9)).trans (sets4_keeps _ w.heap.size (.int .i64 o0) (.int .i64 n0) (.string s0) (.slice a9 l0.length c9)) (fun _ _ h => h)
 have k2 := ((k1.mono (G := [w.heap.size, w.heap.size + 1, w.heap.size + 1 + 1]) (fun k _ h => by simp at h ⊢; exact .inl h)).setCell (p := ⟨w.heap.size + 1, 0, none⟩) (.inl (by simp)) (.int .i64 0)).setCell (p := ⟨w.heap.size + 1 + 1, 0, none⟩) (.inl (by simp)) (.bool true)
 have k3 := k2.alloc (.cells #[.int .i64 0, .string (str t.s), .int .i64 t.n, .int .i64 t.at_] 151)
 have g1 := (heap_setCell_other (sets4 (sets4 w1 w.heap.size (.int .i64 o0) (.int .i64 n0) (.string s0) (.slice a9 l0.length c9)) w.heap.size (.int .i64 o0) (.int .i64 n0) (.string s0) (.slice a9 l0.length c9)) ⟨w.heap.size + 1, 0, none⟩ w.heap.size (.int .i64 0) (by simp)).trans e2
 have g2 := (heap_setCell_other _ ⟨w.heap.size + 1 + 1, 0, none⟩ w.heap.size (.bool true) (by simp; omega)).trans g1
 have g3 := alloc_old (o2 := .cells #[.int .i64 0, .string (str t.s), .int .i64 t.n, .int .i64 t.at_] 151) g2
 have c1 := heap_setCell_same _ (w.heap.size + 1) 0 _ _ (.int .i64 0) ((k1.block (w.heap.size + 1) bc (by simp)).trans HC1.out)
 have c2 := (heap_setCell_other _ ⟨w.heap.size + 1 + 1, 0, none⟩ (w.heap.size + 1) (.bool true) (by simp)).trans c1
 have c3 := cell_of_block (alloc_old (o2 := .cells #[.int .i64 0, .string (str t.s), .int .i64 t.n, .int .i64 t.at_] 151) c2) 0
 have d1 := heap_setCell_same _ (w.heap.size + 1 + 1) 0 _ _ (.bool true) ((heap_setCell_other _ ⟨w.heap.size + 1, 0, none⟩ (w.heap.size + 1 + 1) (.int .i64 0) (by simp)).trans ((k1.block (w.heap.size + 1 + 1) bd (by simp; omega)).trans HD1.out))
 have d3 := cell_of_block (alloc_old (o2 := .cells #[.int .i64 0, .string (str t.s), .int .i64 t.n, .int .i64 t.at_] 151) d1) 0
 refine leaves_cons (f := 192) (args := #[.pointer (some ⟨w.heap.size, 0, none⟩), .pointer (some ⟨w.heap.size + 1, 0, none⟩), .pointer (some ⟨w.heap.size + 1 + 1, 0, none⟩)]) (by simp) (by simp [go_sem]) ?_
 refine (read1_idle _ _ _ _).mono ?_
 rintro e u' w'' ⟨rfl, rfl, rfl⟩
 show Leaves _ _ _ _ [] (settle _) _
 unfold settle
 refine ⟨_, results_read rfl rfl rfl rfl g3 c3 d3, [.int .i64 o0, .int .i64 n0, .string s0, .slice a9 l0.length c9], rfl, ExprAt.mono (fun b _ hb => by omega) (ExprAt.keep k3 (fun b hb e => by simp at e; omega) HX1.out), HK1.out.trans k3 (fun b hb e => by simp at e; omega)⟩
def parseP (f : Nat) (s : List UInt8) (eD : ExprD) : Prop :=
 (lexR s).2.2 = 0 ∧ EndsL (lexR s).1 ∧ 0 < (lexR s).1.length ∧ (∃ j, readP f (lexR s).1 = some (.ok (eD, j))) ∧ exprOk eD = true
def ParseEnd (w : World) (eD : ExprD) (e : Ending) (w' : World) : Prop :=
 ∃ cs, e = .returned (.tuple #[.agg cs.toArray, .int .i64 0, .int .i64 0]) ∧ ExprAt w' (fun b => w.heap.size ≤ b) eD cs ∧ Keeps [] w w'
theorem paParse_ok (f : Nat) (s : ByteArray) (eD : ExprD) (w : World) (hT : Tabs w) (hE : Errs w) (hp : parseP f s.data.toList eD) :
 Calls Tryz.prog 80 #[.string s] w (ParseEnd w eD) := by
 have HP := hid hp
 have HX := hid (fun wx (k : Keeps [] w wx) => lxLex_all s wx (hT.k k) (hE.k k))
 have HT := hid hT
 have HE := hid hE
 clear hp hT hE
 go_enter Tryz.func80, Tryz.ntmps80
 go_wp2_with fail
 have hn := heap_alloc_new w (.cells #[.int .i64 0, .int .i64 0, .string ⟨#[]⟩, .slice none 0 0] 76)
 have k0 : Keeps [] w (w.alloc (.cells #[.int .i64 0, .int .i64 0, .string ⟨#[]⟩, .slice none 0 0] 76)) := by exact Keeps.K
 refine (HX.out _ k0).mono ?_
 rintro e w1 ⟨v, rfl, hv, hk1⟩
 obtain ⟨a, c, rfl⟩ := hv.form
 have HB1 := hid ((hk1.block w.heap.size (by simp) (by simp)).trans hn)
 have HL1 := hid hv
 have K1 := hid (k0.trans hk1 (fun _ _ h => h))
 have hz : (((lexR s.data.toList).2.2 : Nat) : Int) = 0 := by rw [HP.out.1]; rfl
 clear hv hk1 hn k0
 obtain ⟨j, hj⟩ := HP.out.2.2.2.1
 have HRD := hid (fun wx (k : Keeps [] w1 wx) => paRead_ok f (lexR s.data.toList).1 eD j a c (fun b => b < w1.heap.size) wx ((HL1.out.mono (fun b hb _ => hb)).k k) (fun b hb => Nat.lt_of_lt_of_le hb k.size) HP.out.2.1 HP.out.2.2.1 hj)
 clear hj
 go_wp2_with fail
 refine (HRD.out _ (by exact Keeps.K)).mono ?_
 rintro e w2 ⟨cs, rfl, hx2, hk2⟩
 obtain ⟨o0, n0, s0, l0⟩ := eD
 obtain ⟨a9, c9, rfl, hls⟩ := ExprAt.parts hx2
 have HB2 := hid ((hk2.block w.heap.size (Array.getElem?_eq_some_iff.1 HB1.out).1 (by simp)).trans HB1.out)
 have HX2 := hid (ExprAt.mono (P' := fun b => w.heap.size < b) (fun b _ hb => Nat.lt_of_lt_of_le (Array.getElem?_eq_some_iff.1 HB1.out).1 hb) hx2)
 have K2 := hid (K1.out.trans hk2 (fun _ _ h => h))
 have hck := fun wx (k : Keeps [] w2 wx) => paCheck_ok (.mk o0 n0 s0 l0) _ (fun b => w.heap.size < b) wx (HT.out.k (K2.out.trans k (fun _ _ h => h))) (HE.out.k (K2.out.trans k (fun _ _ h => h))) (ExprAt.keep k (fun _ _ => by simp) HX2.out) HP.out.2.2.2.2
 have HCK := hid hck
 obtain ⟨b2, z0, z1, z2, z3, h0, h1, h2, h3⟩ := zexpr HB2.out
 clear hx2 hls hk2 hck
 go_wp2_with fail
 have hn2 := heap_alloc_new w2 (.cells #[.int .i64 o0, .int .i64 n0, .string s0, .slice a9 l0.length c9] 76)
 have k2 : Keeps [] w2 (w2.alloc (.cells #[.int .i64 o0, .int .i64 n0, .string s0, .slice a9 l0.length c9] 76)) := by exact Keeps.K
 refine (HCK.out _ k2).mono ?_
 rintro e w3 ⟨rfl, hk3⟩
 have K23 := hid (k2.trans hk3 (fun _ _ h => h))
 have HE3 := (hk3.block w2.heap.size (by simp) (by simp)).trans hn2
 have HB3 := hid ((K23.out.block w.heap.size b2 (by simp)).trans HB2.out)
 obtain ⟨b3, y0, y1, y2, y3, -, -, -, -⟩ := zexpr HE3
 obtain ⟨b30, z0', z1', z2', z3', h0', h1', h2', h3'⟩ := zexpr HB3.out
 clear z0 z1 z2 z3 h0 h1 h2 h3 hn2 k2 hk3 HE3
 go_wp2_with fail
 have h4 := set4 HB3.out (.int .i64 o0) (.int .i64 n0) (.string s0) (.slice a9 l0.length c9)
 refine bodyPost_ret (results_parse Tryz.results80 rfl rfl h4) rfl ?_
 have k4 := sets4_keeps w3 w.heap.size (.int .i64 o0) (.int .i64 n0) (.string s0) (.slice a9 l0.length c9)
 exact ⟨[.int .i64 o0, .int .i64 n0, .string s0, .slice a9 l0.length c9], rfl, ExprAt.mono (fun b _ hb => Nat.le_of_lt hb) (ExprAt.keep k4 (fun b hb e => by simp at e; omega) (ExprAt.keep K23.out (fun _ _ => by simp) HX2.out)), (K2.out.trans K23.out (fun _ _ h => h)).trans k4 (fun b hb e => by simp at e; omega)⟩
theorem ownsRow_set {w : World} {base size n g : Nat} {e : TypeId} {v u : Value} {xs : List Value} (h : w.ownsRow base e size v n xs) (hg : v.ownBlock = some g) (j : Nat) : (w.setCell ⟨g, j, none⟩ u).ownsRow base e size v n (xs.set j u) := by
 obtain ⟨h1, ⟨rfl, _⟩ | ⟨g', cap, cur, rfl, hb, hgg, h2, h3, h4, h5⟩⟩ := h
 ·simp [Value.ownBlock] at hg
 ·simp [Value.ownBlock] at hg
  subst hg
  refine ⟨by simpa using h1, .inr ⟨g', cap, cur.setIfInBounds j u, rfl, hb, heap_setCell_same w g' j _ _ u hgg, h2, h3, by simpa using h4, ?_⟩⟩
  rw [← h5, Array.toList_setIfInBounds, List.take_set]
theorem flatten_set {m : Nat} : ∀ {css : List (List Value)} (i k : Nat) (u : Value), (∀ c ∈ css, c.length = m) → k < m → i < css.length → css.flatten.set (i * m + k) u = (css.set i ((css.getD i []).set k u)).flatten
 | [], i, k, u, _, _, hi => by simp at hi
 | c :: r, 0, k, u, h, hk, _ => by
   have hc := h c (by simp)
   simp only [Nat.zero_mul, Nat.zero_add, List.flatten_cons, List.set_cons_zero, List.getD_cons_zero]
   rw [List.set_append_left _ _ (by omega)]
 | c :: r, i + 1, k, u, h, hk, hi => by
   have hc := h c (by simp)
   have ih := flatten_set (css := r) i k u (fun x hx => h x (by simp [hx])) hk (by simpa using hi)
   have e : (i + 1) * m + k = c.length + (i * m + k) := by rw [hc, Nat.succ_mul]; omega
   rw [e]
   simp only [List.flatten_cons, List.set_cons_succ, List.getD_cons_succ]
   rw [List.set_append_right _ _ (by omega), Nat.add_sub_cancel_left, ih]
theorem flat_get {m : Nat} : ∀ {css : List (List Value)} (i k : Nat) {c : List Value}, (∀ c ∈ css, c.length = m) → k < m → css[i]? = some c → css.flatten[i * m + k]? = c[k]?
 | [], i, k, c, _, _, hi => by simp at hi
 | d :: r, 0, k, c, h, hk, hi => by
   have hc := h d (by simp)
   simp at hi
   subst hi
   simp only [Nat.zero_mul, Nat.zero_add, List.flatten_cons]
   rw [List.getElem?_append_left (by omega)]
 | d :: r, i + 1, k, c, h, hk, hi => by
   have hc := h d (by simp)
   have ih := flat_get (css := r) i k (c := c) (fun x hx => h x (by simp [hx])) hk (by simpa using hi)
   have e : (i + 1) * m + k = d.length + (i * m + k) := by rw [hc, Nat.succ_mul]; omega
   rw [e]
   simp only [List.flatten_cons]
   rw [List.getElem?_append_right (by omega), Nat.add_sub_cancel_left, ih]
def fldC (f : FldD) : List Value := [.string (str f.name), .int .i64 f.typ, .string (str f.formula), .string (str f.rule), .string (str f.shown)]
def OptAt (w : World) (P : Nat → Prop) : Option ExprD → List Value → Prop
 | none, cs => cs = [.int .i64 0, .int .i64 0, .string ⟨#[]⟩, .slice none 0 0]
 | some e, cs => ExprAt w P e cs
theorem OptAt.len {w : World} {P : Nat → Prop} : ∀ {x : Option ExprD} {cs : List Value}, OptAt w P x cs → cs.length = 4
 | none, _, h => by rw [h]; rfl
 | some _, _, h => ExprAt.len h
theorem OptAt.one {w : World} {P : Nat → Prop} : ∀ {x : Option ExprD} {cs : List Value}, OptAt w P x cs → ∀ u ∈ cs, u.oneCell' = true
 | none, _, h => by
   intro u hu
   rw [h] at hu
   simp at hu
   rcases hu with rfl | rfl | rfl <;> rfl
 | some _, _, h => ExprAt.one h
theorem OptAt.keep {G : List Nat} {w w' : World} {P : Nat → Prop} (k : Keeps G w w') (hP : ∀ b, P b → b ∉ G) : ∀ {x : Option ExprD} {cs : List Value}, OptAt w P x cs → OptAt w' P x cs
 | none, _, h => h
 | some _, _, h => ExprAt.keep k hP h
theorem OptAt.mono {w : World} {P P' : Nat → Prop} (hP : ∀ b, b < w.heap.size → P b → P' b) : ∀ {x : Option ExprD} {cs : List Value}, OptAt w P x cs → OptAt w P' x cs
 | none, _, h => h
 | some _, _, h => ExprAt.mono hP h
def natC (l : List Nat) : List Value := l.map (fun (k : Nat) => Value.int .i64 (k : Int))
def SfAt (w : World) (P : Nat → Prop) (cs : List Value) (x : SfdD) : Prop :=
 ∃ c1 c2 c3 nv, OptAt w P x.formula c1 ∧ OptAt w P x.rule c2 ∧ OptAt w P x.shown c3 ∧ Reads w 1 nv x.needs.length (natC x.needs) ∧ Lies P nv x.needs.length ∧
   cs = fldC x.f ++ (c1 ++ (c2 ++ (c3 ++ [.bool x.formula.isSome, .bool x.rule.isSome, .bool x.shown.isSome, nv])))
def sfL : Lay SfdD where
 size := 21
 pos := by decide
 at_ w P cs x := SfAt w P cs x
 len := fun h => by
  obtain ⟨c1, c2, c3, nv, h1, h2, h3, h4, h5, rfl⟩ := h
  simp [fldC, h1.len, h2.len, h3.len]
 one := fun h => by
  obtain ⟨c1, c2, c3, nv, h1, h2, h3, h4, h5, rfl⟩ := h
  obtain ⟨a, c, rfl⟩ := h4.form
  intro u hu
  simp only [List.mem_append] at hu
  rcases hu with hu | hu | hu | hu | hu
  ·simp [fldC] at hu
   rcases hu with rfl | rfl | rfl | rfl | rfl <;> rfl
  ·exact h1.one u hu
  ·exact h2.one u hu
  ·exact h3.one u hu
  ·simp at hu
   rcases hu with rfl | rfl | rfl | rfl <;> rfl
 keep := fun h k hP => by
  obtain ⟨c1, c2, c3, nv, h1, h2, h3, h4, h5, rfl⟩ := h
  exact ⟨c1, c2, c3, nv, h1.keep k hP, h2.keep k hP, h3.keep k hP, h4.keepsL h5 k hP, h5, rfl⟩
 mono := fun h hP => by
  obtain ⟨c1, c2, c3, nv, h1, h2, h3, h4, h5, rfl⟩ := h
  exact ⟨c1, c2, c3, nv, h1.mono hP, h2.mono hP, h3.mono hP, h4, h5.mono h4 hP, rfl⟩
theorem Tryz.infoIn8 : (Tryz.prog.info? 3).map (fun i => (i.zero, i.size, i.bytes)) = some (some (.int .i64 0), 1, 8) := by kernel_rfl
theorem natC_one (l : List Nat) : ∀ u ∈ natC l, u.oneCell' = true := by
 intro u hu
 unfold natC at hu
 simp at hu
 obtain ⟨x, _, rfl⟩ := hu
 rfl
theorem wpList_appI {ops : Array Oper} {rest : List Oper} {o : Oper} {a : Act} {Q : Exit → Act → World → Prop} (w : World) (hgd : o.guard = none) (s x : Operand)
 (ho : o.op = .call { callee := .builtin .append, args := #[s, x], argTypes := #[66, 66] })
 (base : Nat) (v : Value) (hs : a.eval s = v) (l : List Nat) (n : Nat) (hn : l.length = n) (hown : w.ownsRow base 3 1 v n (natC l)) (src : Value) (hx : a.eval x = src) (y : Nat) (hr : Reads w 1 src 1 (natC [y])) (hbytes : n + 1 ≤ 1000000) (hbase : base ≤ w.heap.size)
 (h : ∀ a' c' w', Hid (w'.ownsRow base 3 1 (.slice a' (n + 1) c') (n + 1) (natC (l ++ [y]))) → Hid (Keeps (ownB v) w w') → Hid (∀ b ∈ ownB (.slice a' (n + 1) c'), b ∈ ownB v ∨ w.heap.size ≤ b) → wpList Tryz.prog ops Q rest (a.put o.dst (.slice a' (n + 1) c')) w') : wpList Tryz.prog ops Q (o :: rest) a w := by
 obtain ⟨i, hi, hz, hsize, hby⟩ := info_parts Tryz.infoIn8
 subst hn
 refine wpList_append_reads w hgd s x 66 ho base 3 i (.int .i64 0) 1 8 Tryz.underlying66 hi hz hsize hby rfl (by decide) v hs l.length (natC l) hown _ hx 1 (natC [y]) hr (natC_one _) (by omega) (le_maxLen (by omega)) hbase fun a' c' w' g1 g2 g3 _ => ?_
 refine h a' c' w' (by show w'.ownsRow _ _ _ _ _ _; have e : natC (l ++ [y]) = natC l ++ natC [y] := by unfold natC; simp
                       rw [e]; exact g1.out) (Keeps.ofGrown (F := ownB v) g2.out (fun k hk => by rw [mem_ownB]; exact hk)) (fun b hb => ?_)
 rw [mem_ownB] at hb ⊢
 rcases g3.out with g | g
 ·exact .inl (by rw [← g]; exact hb)
 ·rw [g] at hb
  simp at hb
  exact .inr (by omega)
def natsL : Lay (List Nat) where
 size := 1
 pos := by decide
 at_ w P cs l := ∃ nv, cs = [nv] ∧ Reads w 1 nv l.length (natC l) ∧ Lies P nv l.length
 len := fun ⟨_, h, _⟩ => by rw [h]; rfl
 one := fun ⟨nv, h, h2, _⟩ u hu => by
  rw [h] at hu
  simp at hu
  subst hu
  obtain ⟨a, c, rfl⟩ := h2.form
  rfl
 keep := fun ⟨nv, h, h2, h3⟩ k hP => ⟨nv, h, h2.keepsL h3 k hP, h3⟩
 mono := fun ⟨nv, h, h2, h3⟩ hP => ⟨nv, h, h2, h3.mono h2 hP⟩
def listP (n : Nat) (needs : List (List Nat)) (i : Nat) : List Nat := (needs.getD i []).filter fun k => decide (k < n)
theorem grList_ok (n i m : Nat) (needs : List (List Nat)) (P : Nat → Prop) (a : Option Addr) (c : Nat) (w : World) (hn : n ≤ 4096) (hi : i < m) (hm : needs.length = m) (hl : ListAt natsL w P (.slice a m c) needs) (hs : ∀ l ∈ needs, l.length ≤ 1000) :
 Calls Tryz.prog 149 #[.int .i64 n, .slice a m c, .int .i64 i] w fun e w' => ∃ a' c', e = .returned (.slice a' (listP n needs i).length c') ∧ w'.ownsRow w.heap.size 3 1 (.slice a' (listP n needs i).length c') (listP n needs i).length (natC (listP n needs i)) ∧ Keeps [] w w' := by
 subst hm
 obtain ⟨l, hli⟩ : ∃ l, needs[i]? = some l := ⟨_, List.getElem?_eq_getElem hi⟩
 have hlp : listP n needs i = l.filter fun k => decide (k < n) := by unfold listP; rw [List.getD_eq_getElem?_getD, hli]; rfl
 have hl1 : l.length ≤ 1000 := hs l (List.mem_of_getElem? hli)
 obtain ⟨g, off, c', hv, hnc, _, hg, _⟩ := hl.addr (by intro e; rw [e] at hi; simp at hi)
 simp only [Value.slice.injEq] at hv
 obtain ⟨rfl, -, rfl⟩ := hv
 obtain ⟨cs, ⟨nv, rfl, hr, _⟩, hcell⟩ := hl.get hli
 obtain ⟨a2, c2, rfl⟩ := hr.form
 have x0 : w.cell? ⟨g, off + i, none⟩ = some (.slice a2 l.length c2) := by simpa [natsL] using hcell 0 _ rfl
 have HR := hid hr
 have HLP := hid hlp
 have i0 : (0 : Int) ≤ (i : Int) := Int.natCast_nonneg _
 have i1 : (i : Int) < (needs.length : Int) := by omega
 clear hl hs hli hr hcell hlp hnc
 go_enter Tryz.func149, Tryz.ntmps149
 go_wp2_with fail
 go_loopw [7, 19] (fun lv iv wr => ∃ (k m c3 : Nat) (a3 : Option Addr), lv = .slice a3 m c3 ∧ iv = .int .i64 (k : Int) ∧ k ≤ l.length ∧ Hid (((l.take k).filter fun k => decide (k < n)).length = m ∧ wr.ownsRow w.heap.size 3 1 (.slice a3 m c3) m (natC ((l.take k).filter fun k => decide (k < n))) ∧ Keeps [] w wr)) (fun _ iv _ => l.length - (intOf iv).toNat)
 case atStart => exact ⟨0, 0, 0, none, rfl, rfl, Nat.zero_le _, rfl, World.ownsRow_nil _ _ _ _, by exact Keeps.K⟩
 case round =>
  obtain ⟨k, m, c3, a3, rfl, rfl, hk, hW⟩ := hrel
  have HW := hid hW.out
  clear hW
  have j0 : (0 : Int) ≤ (k : Int) := Int.natCast_nonneg _
  have hw1 : IntKind.i64.wrap ((k : Int) + 1) = (k : Int) + 1 := by rw [IntKind.wrap_i64]; omega
  by_cases hlt : k < l.length
  ·have k1 : (k : Int) < (l.length : Int) := by omega
   obtain ⟨y, hy⟩ : ∃ y, l[k]? = some y := ⟨_, List.getElem?_eq_getElem hlt⟩
   have hrd : Reads wr 1 (.slice a2 l.length c2) l.length (natC l) := HR.out.keeps HW.out.2.2 (fun _ _ h => by cases h)
   obtain ⟨g2, o2, rfl, v0⟩ : ∃ g o, a2 = some ⟨g, o, none⟩ ∧ wr.cell? ⟨g, o + k, none⟩ = some (.int .i64 y) := by
    rcases hrd.2 with ⟨h0, _⟩ | ⟨_, g, off, c', e, _, _, _, hx⟩
    ·omega
    ·simp only [Value.slice.injEq] at e
     exact ⟨g, off, e.1, hx k _ (by unfold natC; rw [List.getElem?_map, hy]; rfl)⟩
   have HTK : Hid (l.take (k + 1) = l.take k ++ [y]) := by show _ = _; rw [List.take_add_one, hy]; rfl
   have hml : m ≤ k := by
    have := List.length_filter_le (fun k => decide (k < n)) (l.take k)
    rw [HW.out.1, List.length_take] at this
    omega
   have y0 : (0 : Int) ≤ (y : Int) := Int.natCast_nonneg _
   clear hrd hy
   by_cases hyn : y < n
   ·have y1 : (y : Int) < (n : Int) := by omega
    have HF : Hid ((l.take (k + 1)).filter (fun k => decide (k < n)) = (l.take k).filter (fun k => decide (k < n)) ++ [y]) := by
     show _ = _
     rw [HTK.out, List.filter_append]
     simp [hyn]
    have hA := heap_alloc_new wr (.cells #[.int .i64 y] 3)
    have HRW := hid hA
    have KX : Hid (Keeps [] wr (wr.alloc (.cells #[.int .i64 y] 3))) := by exact Keeps.K
    clear hA
    go_wp2_with (at_builtin; go_must (refine wpList_appI _ (by rfl) _ _ (by rfl) w.heap.size (.slice a3 m c3) (by rfl) _ m HW.out.1 (ownsRow_keeps HW.out.2.1 KX.out (fun _ _ h => by cases h)) _ (by rfl) y (Reads.ofBlock (n := 1) HRW.out rfl (by decide)) (by omega) (Nat.le_trans HW.out.2.2.size KX.out.size) ?_; intro a6 q6 w6 ho6 hk6 hv6))
    have hge := fun b (hb : b ∈ ownB (.slice a3 m c3)) => (ownB_ge HW.out.2.1 b hb).1
    exact ⟨⟨k + 1, m + 1, q6, a6, rfl, rfl, by omega, by rw [HF.out, List.length_append, HW.out.1]; rfl, by rw [HF.out]; exact ho6.out, (HW.out.2.2.trans KX.out (fun _ _ h => h)).trans hk6.out (fun b hb hm => by have := hge b hm; omega)⟩, by simp only [intOf]; omega⟩
   ·have y1 : ¬ (y : Int) < (n : Int) := by omega
    have HF : Hid ((l.take (k + 1)).filter (fun k => decide (k < n)) = (l.take k).filter (fun k => decide (k < n))) := by
     show _ = _
     rw [HTK.out, List.filter_append]
     simp [hyn]
    go_wp2_with fail
    exact ⟨⟨k + 1, m, c3, a3, rfl, rfl, by omega, by rw [HF.out]; exact HW.out.1, by rw [HF.out]; exact HW.out.2.1, HW.out.2.2⟩, by simp only [intOf]; omega⟩
  ·obtain rfl : k = l.length := by omega
   have k1 : ¬ (l.length : Int) < (l.length : Int) := by omega
   have e : l.take l.length = l := List.take_length
   rw [e] at HW
   go_wp2_with fail
   go_ret
   rw [HLP.out, HW.out.1]
   exact ⟨a3, c3, rfl, HW.out.2.1, HW.out.2.2⟩
end Go.Proofs.YtgjiahilbmeaeaaGreatDoor