/- Joined of WlD, WlF, WlG. -/
import Derived.Test.YtgjiahilbmeaeaaGreatDoorR06
import Derived.Test.YtgjiahilbmeaeaaGreatDoorR07
import Derived.Lib.Strings
set_option maxRecDepth 100000
set_option maxHeartbeats 4000000
set_option linter.unusedSimpArgs false
set_option linter.unusedVariables false
/- A log's four steps of a new file, walked. -/
namespace Go.Proofs.YtgjiahilbmeaeaaGreatDoor
open Go Go.RowKit
theorem DiskPost.k {w w1 w' : World} {F : Nat → Prop} {b : Nat} {d : DiskD} (k1 : Keeps [] w w1) (h : DiskPost w1 F b d w') : DiskPost w F b d w' := by
 obtain ⟨F', h1, h2, h3⟩ := h
 exact ⟨F', h1, fun x hx => (h2 x hx).imp id (fun h => Nat.le_trans k1.size h), (KeepsP.of0 k1).trans h3 (fun _ _ h => h)⟩
def WalBlk (w : World) (wb b : Nat) (n base last : Int) : Prop := w.heap[wb]? = some (.cells #[ptrV b, .int .i64 n, .int .i64 base, .int .i64 last] 166 (0, 0))
theorem dcreate_any' (w : World) (F : Nat → Prop) (b n : Nat) (d : DiskD) (name : Nm) (h : DiskAt w F b d) (hk : DiskOk2 n d) (hn : n ≤ 1000000) (hnm : name.length ≤ 1000) :
 Calls Tryz.prog 99 #[ptrV b, .string (str name)] w (DiskEnds w F b (dcreate d name)) :=
 dkCreate_any w F b n d name h ⟨hk.c0, hk.c1, hk.a0, hk.a1⟩ hn hnm (by have := hk.files; omega)
theorem wlAnew1_any (w : World) (F : Nat → Prop) (b n wb cb : Nat) (d : DiskD) (h : DiskAt w F b d) (hk : DiskOk2 n d) (hn : n ≤ 1000000) (hc : w.cell? ⟨cb, 0, none⟩ = some (ptrV wb)) (hw : w.cell? ⟨wb, 0, none⟩ = some (ptrV b)) :
 Calls Tryz.prog 98 #[ptrV cb] w (DiskEnds w F b (dcreate d walTmp)) := by
 have HC := hid (dcreate_any' w F b n d walTmp h hk hn (by decide))
 clear h hk
 unfold ptrV at *
 go_enter Tryz.func98, Tryz.ntmps98
 go_wp2_with fail
 refine HC.out.mono ?_
 rintro e w1 ⟨rfl, hp⟩
 have HP := hid hp
 clear hp
 go_wp2_with fail
 go_ret
 exact ⟨rfl, HP.out⟩
theorem wlAnew3_any (w : World) (F : Nat → Prop) (b n wb cb : Nat) (d : DiskD) (h : DiskAt w F b d) (hk : DiskOk2 n d) (hn : n ≤ 1000000) (hc : w.cell? ⟨cb, 0, none⟩ = some (ptrV wb)) (hw : w.cell? ⟨wb, 0, none⟩ = some (ptrV b)) :
 Calls Tryz.prog 102 #[ptrV cb] w (DiskEnds w F b (dsync d walTmp)) := by
 have HC := hid (dkSync_any w F b n d walTmp h hk hn (by decide))
 clear h hk
 unfold ptrV at *
 go_enter Tryz.func102, Tryz.ntmps102
 go_wp2_with fail
 refine HC.out.mono ?_
 rintro e w1 ⟨rfl, hp⟩
 have HP := hid hp
 clear hp
 go_wp2_with fail
 go_ret
 exact ⟨rfl, HP.out⟩
theorem wlAnew2_any (w : World) (F : Nat → Prop) (b n wb cb bb : Nat) (d : DiskD) (a : Option Addr) (c : Nat) (bs : List UInt8) (h : DiskAt w F b d) (hk : DiskOk2 n d) (hn : n ≤ 1000000) (hc : w.cell? ⟨cb, 0, none⟩ = some (ptrV wb)) (hw : w.cell? ⟨wb, 0, none⟩ = some (ptrV b))
 (hb : w.cell? ⟨bb, 0, none⟩ = some (.slice a bs.length c)) (hr : Reads w 1 (.slice a bs.length c) bs.length (u8s bs)) (hbl : bs.length ≤ 1099511627776) (hbF : ∀ x ∈ ownB (.slice a bs.length c), ¬ F x) :
 Calls Tryz.prog 100 #[ptrV cb, ptrV bb] w (DiskEnds w F b (dappend d walTmp bs)) := by
 have HC := hid (fun wx (k : Keeps [] w wx) => dkAppend_any wx F b n d walTmp a c bs (h.k k) hk hn (by decide) (hr.keeps k (fun _ _ h => by cases h)) hbl hbF)
 clear h hk hr hbl hbF
 unfold ptrV at *
 go_enter Tryz.func100, Tryz.ntmps100
 go_wp2_with fail
 refine Plan.wp_region_plan (fun wx => wx.cell? ⟨cb, 0, none⟩ = some (.pointer (some ⟨wb, 0, none⟩)) ∧ wx.cell? ⟨wb, 0, none⟩ = some (.pointer (some ⟨b, 0, none⟩)) ∧ wx.cell? ⟨bb, 0, none⟩ = some (.slice a bs.length c)) 5 [(true, 0), (true, 1), (true, 2), (true, 3), (true, 4)] (by kernel_rfl) (by as_aux_lemma => kernel_rfl) (by kernel_rfl) (fun _ _ _ _ _ h => h) ?_ (fun hS => ?_)
 (·go_simp)
 simp only [Plan.pick, List.append_eq, List.cons_append, List.nil_append, Plan.g1, Plan.g2, Option.getD_some, List.drop_succ_cons, List.drop_zero]
 iterate 5 (first | refine Plan.tA ?_ | refine Plan.tY ?_ | refine Plan.pN ?_ | refine Plan.pU ?_ | fail)
 refine Plan.fin ?_
 go_wp2_with fail
 refine (HC.out _ (by exact Keeps.K)).mono ?_
 rintro e w1 ⟨rfl, hp⟩
 have HP : Hid (DiskPost w F b (dappend d walTmp bs).1 w1) := hp.k (by exact Keeps.K)
 clear hp
 go_wp2_with fail
 go_ret
 exact ⟨rfl, HP.out⟩
theorem wlAnew4_any (w : World) (F : Nat → Prop) (b n wb cb nb : Nat) (d : DiskD) (name : Nm) (h : DiskAt w F b d) (hk : DiskOk2 n d) (hn : n ≤ 1000000) (hc : w.cell? ⟨cb, 0, none⟩ = some (ptrV wb)) (hw : w.cell? ⟨wb, 0, none⟩ = some (ptrV b))
 (hb : w.cell? ⟨nb, 0, none⟩ = some (.string (str name))) (hnm : name.length ≤ 1000) :
 Calls Tryz.prog 103 #[ptrV cb, ptrV nb] w (DiskEnds w F b (drename d walTmp name)) := by
 have HC := hid (fun wx (k : Keeps [] w wx) => dkRename_any wx F b n d walTmp name (h.k k) hk hn (by decide) hnm)
 clear h hk hnm
 unfold ptrV at *
 go_enter Tryz.func103, Tryz.ntmps103
 go_wp2_with fail
 refine Plan.wp_region_plan (fun wx => wx.cell? ⟨cb, 0, none⟩ = some (.pointer (some ⟨wb, 0, none⟩)) ∧ wx.cell? ⟨wb, 0, none⟩ = some (.pointer (some ⟨b, 0, none⟩)) ∧ wx.cell? ⟨nb, 0, none⟩ = some (.string (str name))) 5 [(true, 0), (true, 1), (true, 2), (true, 3), (true, 4)] (by kernel_rfl) (by as_aux_lemma => kernel_rfl) (by kernel_rfl) (fun _ _ _ _ _ h => h) ?_ (fun hS => ?_)
 (·go_simp)
 simp only [Plan.pick, List.append_eq, List.cons_append, List.nil_append, Plan.g1, Plan.g2, Option.getD_some, List.drop_succ_cons, List.drop_zero]
 iterate 5 (first | refine Plan.tA ?_ | refine Plan.tY ?_ | refine Plan.pN ?_ | refine Plan.pU ?_ | fail)
 refine Plan.fin ?_
 go_wp2_with fail
 refine (HC.out _ (by exact Keeps.K)).mono ?_
 rintro e w1 ⟨rfl, hp⟩
 have HP : Hid (DiskPost w F b (drename d walTmp name).1 w1) := hp.k (by exact Keeps.K)
 clear hp
 go_wp2_with fail
 go_ret
 exact ⟨rfl, HP.out⟩
def keptV (t v b bt : Int) (lv : Value) : Value := .agg #[.int .i64 t, .int .i64 v, .int .i64 b, .int .i64 bt, lv]
theorem wlMay_nil (t v b bt : Int) (a : Option Addr) (c : Nat) (w : World) (h1 : inW b 1099511627776 = true) (h2 : inW bt 1099511627776 = true) (h3 : inW t 1099511627776 = true) (h4 : inW v 7 = true) :
 Calls Tryz.prog 94 #[keptV t v b bt (.slice a 0 c)] w fun e w' => e = .returned (.bool true) ∧ Keeps [] w w' := by
 have H1 := hid h1
 have H2 := hid h2
 have H3 := hid h3
 have H4 := hid h4
 clear h1 h2 h3 h4
 unfold keptV
 go_enter Tryz.func94, Tryz.ntmps94
 go_wp2_with fail
 refine wp_loop_rounds 1 ?_
 rw [rounds_succ]
 go_wp2_with fail
 refine (wlIn_any b 1099511627776 _).mono ?_
 rintro e w1 ⟨rfl, hk1⟩
 have y0 : w1.cell? ⟨w.heap.size, 0, none⟩ = some (.int .i64 t) := hk1.cellSome (by go_simp) (by simp)
 have y1 : w1.cell? ⟨w.heap.size, 1, none⟩ = some (.int .i64 v) := hk1.cellSome (by go_simp) (by simp)
 have y3 : w1.cell? ⟨w.heap.size, 3, none⟩ = some (.int .i64 bt) := hk1.cellSome (by go_simp) (by simp)
 have K1 : Hid (Keeps [] w w1) := (Keeps.trans (F := []) (G := []) (by exact Keeps.K) hk1 (fun _ _ h => by cases h))
 rw [H1.out]
 clear hk1
 go_wp2_with fail
 refine (wlIn_any bt 1099511627776 _).mono ?_
 rintro e w2 ⟨rfl, hk2⟩
 have z0 : w2.cell? ⟨w.heap.size, 0, none⟩ = some (.int .i64 t) := hk2.cellSome y0 (by simp)
 have z1 : w2.cell? ⟨w.heap.size, 1, none⟩ = some (.int .i64 v) := hk2.cellSome y1 (by simp)
 have K2 : Hid (Keeps [] w w2) := K1.out.trans hk2 (fun _ _ h => h)
 rw [H2.out]
 clear hk2 y0 y1 y3
 go_wp2_with fail
 refine (wlIn_any t 1099511627776 _).mono ?_
 rintro e w3 ⟨rfl, hk3⟩
 have x1 : w3.cell? ⟨w.heap.size, 1, none⟩ = some (.int .i64 v) := hk3.cellSome z1 (by simp)
 have K3 : Hid (Keeps [] w w3) := K2.out.trans hk3 (fun _ _ h => h)
 rw [H3.out]
 clear hk3 z0 z1
 go_wp2_with fail
 refine (wlIn_any v 7 _).mono ?_
 rintro e w4 ⟨rfl, hk4⟩
 have K4 : Hid (Keeps [] w w4) := K3.out.trans hk4 (fun _ _ h => h)
 rw [H4.out]
 clear hk4 x1
 go_wp2_with fail
 go_ret
 exact ⟨rfl, K4.out⟩
theorem wlWritten_nil (a : Option Addr) (n c : Nat) (m : Int) (a2 : Option Addr) (c2 : Nat) (w : World) :
 Calls Tryz.prog 97 #[.slice a n c, .int .i64 m, .slice a2 0 c2] w fun e w' => e = .returned (.slice a n c) ∧ Keeps [] w w' := by
 go_enter Tryz.func97, Tryz.ntmps97
 go_wp2_with fail
 refine wp_loop_rounds 1 ?_
 rw [rounds_succ]
 go_wp2_with fail
 go_ret
 exact ⟨rfl, by exact Keeps.K⟩
structure AnewSt (w : World) (A wb b : Nat) (t v bs bt : Int) (lv : Value) : Prop where
 c0 : w.cell? ⟨A, 0, none⟩ = some (.pointer (some ⟨wb, 0, none⟩))
 k0 : w.cell? ⟨A + 1, 0, none⟩ = some (.int .i64 t)
 k1 : w.cell? ⟨A + 1, 1, none⟩ = some (.int .i64 v)
 k2 : w.cell? ⟨A + 1, 2, none⟩ = some (.int .i64 bs)
 k3 : w.cell? ⟨A + 1, 3, none⟩ = some (.int .i64 bt)
 k4 : w.cell? ⟨A + 1, 4, none⟩ = some lv
 w0 : w.cell? ⟨wb, 0, none⟩ = some (.pointer (some ⟨b, 0, none⟩))
 w1 : w.cell? ⟨wb, 1, none⟩ = some (.int .i64 0)
theorem AnewSt.k {w w' : World} {A wb b : Nat} {t v bs bt : Int} {lv : Value} (h : AnewSt w A wb b t v bs bt lv) (k : Keeps [] w w') : AnewSt w' A wb b t v bs bt lv :=
 ⟨k.cellSome h.c0 (by simp), k.cellSome h.k0 (by simp), k.cellSome h.k1 (by simp), k.cellSome h.k2 (by simp), k.cellSome h.k3 (by simp), k.cellSome h.k4 (by simp), k.cellSome h.w0 (by simp), k.cellSome h.w1 (by simp)⟩
theorem two_I64 {x y : Int} (hx : I64 x) (hy : I64 y) : ∀ z ∈ [x, y], I64 z := fun z hz => by
 simp at hz
 rcases hz with rfl | rfl
 ·exact hx
 ·exact hy
theorem frame2 {k : UInt8} {x y : Int} (hx : I64 x) (hy : I64 y) : 1 ≤ (recordP k [x, y]).length ∧ (recordP k [x, y]).length ≤ 21 := by
 have h1 := intL_len hx
 have h2 := intL_len hy
 unfold recordP
 simp only [List.flatMap_cons, List.flatMap_nil, List.append_nil, List.length_cons, List.length_append]
 omega
theorem frameD_len {b : List UInt8} (h : b.length ≤ 1048576) : (frameD b).length ≤ b.length + 14 := by
 have h1 := intL_len (v := (b.length : Int)) ⟨by omega, by omega⟩
 unfold frameD
 simp only [List.length_append, le4, List.length_cons, List.length_nil]
 omega
theorem KeepsP.cellSome {F : Nat → Prop} {w w' : World} {a : Addr} {v : Value} (k : KeepsP F w w') (h : w.cell? a = some v) (hF : ¬ F a.block) : w'.cell? a = some v := by
 obtain ⟨G, k, hg⟩ := k
 exact k.cellSome h (fun hm => hF (hg _ hm))
theorem KeepsP.block {F : Nat → Prop} {w w' : World} {b : Nat} {o : Obj} (k : KeepsP F w w') (h : w.heap[b]? = some o) (hF : ¬ F b) : w'.heap[b]? = some o := by
 obtain ⟨G, k, hg⟩ := k
 exact (k.block b (Array.getElem?_eq_some_iff.1 h).1 (fun hm => hF (hg _ hm))).trans h
theorem DiskAt.lt {w : World} {F : Nat → Prop} {b bm : Nat} {L : List (Nm × (Nat × FileD))} {d : DiskD} (h4 : w.heap[b]? = some (.cells (diskRow d (.map (some bm))) 89 (0, 0))) (h5 : w.ownsMap Tryz.prog 9 heldR bm L.length (fmV (mapA (fun p => ptrV p.1) L))) (h6 : ∀ p ∈ L, FileAt w (fun c => F c ∧ c ∉ diskW b bm L) p.2.1 p.2.2) : ∀ x ∈ diskW b bm L, x < w.heap.size := fun x hx => by
 unfold diskW at hx
 simp only [List.mem_cons] at hx
 rcases hx with rfl | rfl | hx
 ·exact (Array.getElem?_eq_some_iff.1 h4).1
 ·exact h5.lt
 ·exact DiskAt.file (F := F) (b := b) (bm := bm) h6 x hx
theorem DiskAt.old {w : World} {F : Nat → Prop} {b : Nat} {d : DiskD} (h : DiskAt w F b d) : DiskAt w (fun x => F x ∧ x < w.heap.size) b d := by
 obtain ⟨bm, L, h1, h2, h3, h4, h5, h6⟩ := h
 exact ⟨bm, L, h1, h2, fun x hx => ⟨h3 x hx, DiskAt.lt h4 h5 h6 x hx⟩, h4, h5, fun p hp => (h6 p hp).mono (fun c hc h => ⟨⟨h.1, hc⟩, h.2⟩)⟩
structure AnewR (w : World) (A wb b nb bb : Nat) (bs base0 last0 : Int) (lv : Value) (nm : Nm) (a : Option Addr) (k q : Nat) (xs : List UInt8) : Prop where
 c0 : w.cell? ⟨A, 0, none⟩ = some (.pointer (some ⟨wb, 0, none⟩))
 k2 : w.cell? ⟨A + 1, 2, none⟩ = some (.int .i64 bs)
 k4 : w.cell? ⟨A + 1, 4, none⟩ = some lv
 wal : WalBlk w wb b 0 base0 last0
 nmc : w.cell? ⟨nb, 0, none⟩ = some (.string (str nm))
 bbc : w.cell? ⟨bb, 0, none⟩ = some (.slice a k q)
 rd : Reads w 1 (.slice a k q) k (u8s xs)
theorem AnewR.k {w w' : World} {F : Nat → Prop} {A wb b nb bb : Nat} {bs base0 last0 : Int} {lv : Value} {nm : Nm} {a : Option Addr} {k q : Nat} {xs : List UInt8} (h : AnewR w A wb b nb bb bs base0 last0 lv nm a k q xs) (kk : KeepsP F w w') (hF : ¬ F A ∧ ¬ F (A + 1) ∧ ¬ F wb ∧ ¬ F nb ∧ ¬ F bb ∧ ∀ x ∈ ownB (.slice a k q), ¬ F x) : AnewR w' A wb b nb bb bs base0 last0 lv nm a k q xs := by
 refine ⟨kk.cellSome h.c0 hF.1, kk.cellSome h.k2 hF.2.1, kk.cellSome h.k4 hF.2.1, kk.block h.wal hF.2.2.1, kk.cellSome h.nmc hF.2.2.2.1, kk.cellSome h.bbc hF.2.2.2.2.1, ?_⟩
 obtain ⟨G, kg, hg⟩ := kk
 exact h.rd.keeps kg (fun x hx hm => hF.2.2.2.2.2 x hx (hg x hm))
theorem wlAnew_good (w : World) (F : Nat → Prop) (b n wb : Nat) (d : DiskD) (t v bs bt base0 last0 : Int) (a : Option Addr) (c : Nat) (h : DiskAt w F b d) (hn : n ≤ 1000000) (hw : WalBlk w wb b 0 base0 last0) (hF : ¬ F wb)
 (b1 : 0 ≤ t ∧ t ≤ 1099511627776) (b2 : 0 ≤ v ∧ v ≤ 7) (b3 : 0 ≤ bs ∧ bs ≤ 1099511627776) (b4 : 0 ≤ bt ∧ bt ≤ 1099511627776)
 (d1 d2 d3 d4 : DiskD) (k0 : DiskOk2 n d) (k1 : DiskOk2 n d1) (k2 : DiskOk2 n d2) (k3 : DiskOk2 n d3) (g1 : dcreate d walTmp = (d1, 0)) (g2 : dappend d1 walTmp (frameD (recordP 0 [bs, bt]) ++ frameD (recordP 1 [t, v])) = (d2, 0)) (g3 : dsync d2 walTmp = (d3, 0)) (g4 : drename d3 walTmp (walN 1) = (d4, 0)) :
 Calls Tryz.prog 36 #[ptrV wb, keptV t v bs bt (.slice a 0 c)] w fun e w' => e = .returned (.int .i64 0) ∧ ∃ F', DiskAt w' F' b d4 ∧ (∀ x, F' x → F x ∨ w.heap.size ≤ x) ∧ KeepsP (fun x => F x ∨ x = wb) w w' ∧ WalBlk w' wb b 1 bs bs := by
 have HMAY := hid (fun wx => wlMay_nil t v bs bt a c wx (decide_eq_true b3) (decide_eq_true b4) (decide_eq_true b1) (decide_eq_true b2))
 have I1 : I64 t := ⟨by omega, by omega⟩
 have I2 : I64 v := ⟨by omega, by omega⟩
 have I3 : I64 bs := ⟨by omega, by omega⟩
 have I4 : I64 bt := ⟨by omega, by omega⟩
 have HI := hid (And.intro I1 (And.intro I2 (And.intro I3 I4)))
 have HW := hid hw
 have HD := hid h
 unfold WalBlk ptrV at hw
 have x0 : w.cell? ⟨wb, 0, none⟩ = some (.pointer (some ⟨b, 0, none⟩)) := cell_of_block hw 0
 have x1 : w.cell? ⟨wb, 1, none⟩ = some (.int .i64 0) := cell_of_block hw 1
 have HX0 := hid x0
 have hwl : wb < w.heap.size := (Array.getElem?_eq_some_iff.1 hw).1
 have HG := hid (And.intro g1 (And.intro g2 (And.intro g3 g4)))
 have HK := hid (And.intro k0 (And.intro k1 (And.intro k2 k3)))
 have HF := hid hF
 have HB3 := hid b3
 have w11 : walN 1 = [119, 97, 108, 45, 48, 48, 48, 48, 48, 48, 48, 49] := by decide
 clear hw h g1 g2 g3 g4 k0 k1 k2 k3 hF b1 b2 b3 b4 I1 I2 I3 I4
 unfold keptV at HMAY ⊢
 unfold ptrV
 go_enter Tryz.func36, Tryz.ntmps36
 go_wp2_with fail
 refine (HMAY.out _).mono ?_
 rintro e w1 ⟨rfl, hk1⟩
 have S1 : AnewSt w1 w.heap.size wb b t v bs bt (.slice a 0 c) := ⟨hk1.cellSome (by go_simp) (by simp), hk1.cellSome (by go_simp) (by simp), hk1.cellSome (by go_simp) (by simp), hk1.cellSome (by go_simp) (by simp), hk1.cellSome (by go_simp) (by simp), hk1.cellSome (by go_simp) (by simp), hk1.cellSome (by go_simp) (by simp), hk1.cellSome (by go_simp) (by simp)⟩
 have K1 : Hid (Keeps [] w w1) := Keeps.trans (F := []) (G := []) (by exact Keeps.K) hk1 (fun _ _ h => h)
 have Z1 : Hid (w.heap.size + 2 ≤ w1.heap.size) := by have := hk1.size; simp at this; exact this
 have HS1 := hid S1
 obtain ⟨s1, s2, s3, s4, s5, s6, s7, s8⟩ := S1
 clear hk1 x0 x1
 go_wp2_with fail
 refine (wlName_any 1 w1 (by decide)).mono ?_
 rintro e w2 ⟨rfl, hk2⟩
 have K2 : Hid (Keeps [] w w2) := K1.out.trans hk2 (fun _ _ h => h)
 have HS2 := hid (HS1.out.k hk2)
 have Z2 : Hid (w.heap.size + 2 ≤ w2.heap.size) := Nat.le_trans Z1.out hk2.size
 obtain ⟨nm, hnm⟩ : ∃ nm, walN 1 = nm := ⟨_, rfl⟩
 rw [hnm] at w11
 have hne : nm.isEmpty = false := by rw [w11]; rfl
 rw [hnm]
 have HNM := hid hnm
 have H11 := hid w11
 clear hk2 s1 s2 s3 s4 s5 s6 s7 s8 hnm w11
 obtain ⟨s1, s2, s3, s4, s5, s6, s7, s8⟩ := HS2.out
 have z2 : w.heap.size + 1 < w2.heap.size := Z2.out
 have zw : wb < w2.heap.size := Nat.lt_of_lt_of_le hwl K2.out.size
 go_wp2_with fail
 have HNB : Hid ((w2.alloc (.cells #[.string (str nm)] 9)).heap[w2.heap.size]? = some (.cells #[.string (str nm)] 9 (0, 0))) := heap_alloc_new _ _
 refine (wlRecord_any 0 [bs, bt] (some ⟨w2.heap.size + 1, 0, none⟩) 2 _ (by have := Reads.ofBlock (n := 2) (size := 1) (heap_alloc_new (w2.alloc (.cells #[.string (str nm)] 9)) (.cells #[.int .i64 bs, .int .i64 bt] 3)) rfl (le_maxLen (by decide)); simpa [i64s] using this) (two_I64 HI.out.2.2.1 HI.out.2.2.2) (by simp)).mono ?_
 rintro e w3 ⟨a3, q3, rfl, ho3, hk3⟩
 have K3 : Hid (Keeps [] w2 w3) := Keeps.trans (F := []) (G := []) (by exact Keeps.K) hk3 (fun _ _ h => h)
 have HS3 := hid (HS2.out.k K3.out)
 have HN3 : Hid (w3.heap[w2.heap.size]? = some (.cells #[.string (str nm)] 9 (0, 0))) := by
  have := hk3.block w2.heap.size (by simp; omega) (by simp)
  rw [show w3.heap[w2.heap.size]? = _ from this, Below.heap_alloc _ _ _ (by simp)]
  exact HNB.out
 have Z3 : Hid (w2.heap.size + 1 ≤ w3.heap.size) := by have := hk3.size; simp at this; show _ ≤ _; omega
 obtain ⟨r0, hr0⟩ : ∃ r0, recordP 0 [bs, bt] = r0 := ⟨_, rfl⟩
 have hl0 := frame2 (k := 0) HI.out.2.2.1 HI.out.2.2.2
 rw [hr0] at hl0 ho3 ⊢
 have HR0 := hid hr0
 have HL0 := hid hl0
 have HO3 := hid ho3
 clear hk3 ho3 hr0 hl0 s1 s2 s3 s4 s5 s6 s7 s8 z2 zw
 obtain ⟨s1, s2, s3, s4, s5, s6, s7, s8⟩ := HS3.out
 go_wp2_with fail
 refine (frPut_any r0 a3 q3 w3 (Reads.ofOwn HO3.out) HL0.out.1 (by have := HL0.out.2; omega)).mono ?_
 rintro e w4 ⟨a4, q4, rfl, ho4, hk4⟩
 have K4 : Hid (Keeps [] w2 w4) := K3.out.trans hk4 (fun _ _ h => h)
 have HS4 := hid (HS3.out.k hk4)
 have HN4 : Hid (w4.heap[w2.heap.size]? = some (.cells #[.string (str nm)] 9 (0, 0))) := (hk4.block _ (by have := Z3.out; omega) (by simp)).trans HN3.out
 have Z4 : Hid (w2.heap.size + 1 ≤ w4.heap.size) := Nat.le_trans Z3.out hk4.size
 obtain ⟨f0, hf0⟩ : ∃ f0, frameD r0 = f0 := ⟨_, rfl⟩
 have hlf := frameD_len (b := r0) (by have := HL0.out.2; omega)
 rw [hf0] at ho4 hlf ⊢
 have HO4 : Hid (w4.ownsRow (w2.heap.size + 1) 5 1 (.slice a4 f0.length q4) f0.length (u8s f0)) := ownsRow_base ho4 Z3.out
 have HLF : Hid (f0.length ≤ 40) := by have := HL0.out.2; show _ ≤ _; omega
 have HF0 := hid hf0
 clear hk4 ho4 hf0 hlf s1 s2 s3 s4 s5 s6 s7 s8
 obtain ⟨s1, s2, s3, s4, s5, s6, s7, s8⟩ := HS4.out
 have z4 : w.heap.size + 1 < w4.heap.size := by have := Z4.out; have := Z2.out; omega
 have zw : wb < w4.heap.size := Nat.lt_of_lt_of_le hwl (K2.out.trans K4.out (fun _ _ h => h)).size
 go_wp2_with fail
 have HBB : Hid ((w4.alloc (.cells #[.slice a4 f0.length q4] 27)).heap[w4.heap.size]? = some (.cells #[.slice a4 f0.length q4] 27 (0, 0))) := heap_alloc_new _ _
 refine (wlRecord_any 1 [t, v] (some ⟨w4.heap.size + 1, 0, none⟩) 2 _ (by have := Reads.ofBlock (n := 2) (size := 1) (heap_alloc_new (w4.alloc (.cells #[.slice a4 f0.length q4] 27)) (.cells #[.int .i64 t, .int .i64 v] 3)) rfl (le_maxLen (by decide)); simpa [i64s] using this) (two_I64 HI.out.1 HI.out.2.1) (by simp)).mono ?_
 rintro e w5 ⟨a5, q5, rfl, ho5, hk5⟩
 have K5 : Hid (Keeps [] w4 w5) := Keeps.trans (F := []) (G := []) (by exact Keeps.K) hk5 (fun _ _ h => h)
 have HS5 := hid (HS4.out.k K5.out)
 have HB5 : Hid (w5.heap[w4.heap.size]? = some (.cells #[.slice a4 f0.length q4] 27 (0, 0))) := by
  have := hk5.block w4.heap.size (by simp; omega) (by simp)
  rw [show w5.heap[w4.heap.size]? = _ from this, Below.heap_alloc _ _ _ (by simp)]
  exact HBB.out
 have Z5 : Hid (w4.heap.size + 1 ≤ w5.heap.size) := by have := hk5.size; simp at this; show _ ≤ _; omega
 obtain ⟨r1, hr1⟩ : ∃ r1, recordP 1 [t, v] = r1 := ⟨_, rfl⟩
 have hl1 := frame2 (k := 1) HI.out.1 HI.out.2.1
 rw [hr1] at hl1 ho5 ⊢
 have HR1 := hid hr1
 have HL1 := hid hl1
 have HO5 := hid ho5
 clear hk5 ho5 hr1 hl1 s1 s2 s3 s4 s5 s6 s7 s8 z4 zw
 obtain ⟨s1, s2, s3, s4, s5, s6, s7, s8⟩ := HS5.out
 go_wp2_with fail
 refine (frPut_any r1 a5 q5 w5 (Reads.ofOwn HO5.out) HL1.out.1 (by have := HL1.out.2; omega)).mono ?_
 rintro e w6 ⟨a6, q6, rfl, ho6, hk6⟩
 have K6 : Hid (Keeps [] w4 w6) := K5.out.trans hk6 (fun _ _ h => h)
 have HS6 := hid (HS5.out.k hk6)
 have HB6 : Hid (w6.heap[w4.heap.size]? = some (.cells #[.slice a4 f0.length q4] 27 (0, 0))) := (hk6.block _ (by have := Z5.out; omega) (by simp)).trans HB5.out
 have HN6 : Hid (w6.heap[w2.heap.size]? = some (.cells #[.string (str nm)] 9 (0, 0))) := (K6.out.block _ (by have := Z4.out; omega) (by simp)).trans HN4.out
 have Z6 : Hid (w4.heap.size + 1 ≤ w6.heap.size) := Nat.le_trans Z5.out hk6.size
 obtain ⟨f1, hf1⟩ : ∃ f1, frameD r1 = f1 := ⟨_, rfl⟩
 have hlf := frameD_len (b := r1) (by have := HL1.out.2; omega)
 rw [hf1] at ho6 hlf ⊢
 have HO6 := hid ho6
 have HLF1 : Hid (f1.length ≤ 40) := by have := HL1.out.2; show _ ≤ _; omega
 have HF1 := hid hf1
 have HO46 := hid (ownsRow_keeps HO4.out K6.out (fun _ _ h => by cases h))
 clear hk6 ho6 hf1 hlf s1 s2 s3 s4 s5 s6 s7 s8
 obtain ⟨s1, s2, s3, s4, s5, s6, s7, s8⟩ := HS6.out
 have sb : w6.cell? ⟨w4.heap.size, 0, none⟩ = some (.slice a4 f0.length q4) := cell_of_block HB6.out 0
 have hwp : wrap64 (bs + 1) = bs + 1 := by have := HB3.out; unfold wrap64; omega
 go_wp2_with fail
 refine Plan.wp_region_plan (fun wx => wx.cell? ⟨w4.heap.size, 0, none⟩ = some (.slice a4 f0.length q4) ∧ wx.cell? ⟨w.heap.size + 1, 2, none⟩ = some (.int .i64 bs) ∧ wx.cell? ⟨w.heap.size + 1, 4, none⟩ = some (.slice a 0 c)) 8 [(true, 0), (true, 1), (true, 3), (true, 4), (true, 5), (true, 6), (true, 7), (false, 2)] (by kernel_rfl) (by as_aux_lemma => kernel_rfl) (by kernel_rfl) (fun _ _ _ _ _ h => h) ?_ (fun hS => ?_)
 (·go_simp)
 simp only [Plan.pick, List.append_eq, List.cons_append, List.nil_append, Plan.g1, Plan.g2, Option.getD_some, List.drop_succ_cons, List.drop_zero]
 iterate 7 (first | refine Plan.tA ?_ | refine Plan.tY ?_ | refine Plan.pN ?_ | refine Plan.pU ?_ | fail)
 refine Plan.step ?_
 have HOG := hid (fun x hx => (ownB_ge HO46.out x hx).1)
 have HOL : Hid (∀ x ∈ ownB (.slice a4 f0.length q4), x < w4.heap.size) := fun x hx => (ownB_ge HO4.out x hx).2
 go_wp2_with (show wpList _ _ _ (⟨some 48, _, _, _, _, _⟩ :: _) _ _; go_must (refine wpList_appK _ (by rfl) (.tmp 46) (.tmp 47) (by rfl) (w2.heap.size + 1) (.slice a4 f0.length q4) (by rfl) f0 f0.length rfl (ownsRow_keeps HO46.out (by exact Keeps.K : Keeps [] w6 w6.drew) (fun _ _ h => by cases h)) _ (by rfl) f1 f1.length rfl ((Reads.ofOwn HO6.out).keeps (by exact Keeps.K : Keeps [] w6 w6.drew) (fun _ _ h => by cases h)) (f0.length + f1.length) rfl (by have := HLF.out; have := HLF1.out; omega) (by have := Z4.out; have := Z6.out; simp; omega) ?_); intro a7 q7 w7 ho7 hk7 hb7)
 have K7 : Hid (Keeps (ownB (.slice a4 f0.length q4)) w6 w7) := Keeps.trans (F := ownB (.slice a4 f0.length q4)) (G := ownB (.slice a4 f0.length q4)) (by exact Keeps.K) hk7.out (fun _ _ h => h)
 have hnb : ∀ x, x ≤ w2.heap.size → x ∉ ownB (.slice a4 f0.length q4) := fun x hx hm => by have := HOG.out x hm; omega
 have hnb4 : w4.heap.size ∉ ownB (.slice a4 f0.length q4) := fun hm => by have := HOL.out _ hm; omega
 refine ⟨⟨K7.out.cellSome sb hnb4, K7.out.cellSome s4 (hnb _ (by have := Z2.out; show w.heap.size + 1 ≤ _; omega)), K7.out.cellSome s6 (hnb _ (by have := Z2.out; show w.heap.size + 1 ≤ _; omega))⟩, ?_⟩
 refine Plan.fin ?_
 have t2 : w7.cell? ⟨w.heap.size + 1, 2, none⟩ = some (.int .i64 bs) := K7.out.cellSome s4 (hnb _ (by have := Z2.out; show w.heap.size + 1 ≤ _; omega))
 go_wp2_with fail
 refine (wlWritten_nil a7 _ q7 _ a c w7).mono ?_
 rintro e w8 ⟨rfl, hk8⟩
 have K8 : Hid (Keeps (ownB (.slice a4 f0.length q4)) w6 w8) := K7.out.trans hk8 (fun _ _ h => by cases h)
 have HO8 := hid (ownsRow_keeps ho7.out hk8 (fun _ _ h => by cases h))
 have hb8 : w8.heap[w4.heap.size]? = some (.cells #[.slice a4 f0.length q4] 27 (0, 0)) := (K8.out.block _ (by have := Z6.out; omega) hnb4).trans HB6.out
 have sb8 : w8.cell? ⟨w4.heap.size, 0, none⟩ = some (.slice a4 f0.length q4) := cell_of_block hb8 0
 have fb8 : w8.frozen? ⟨w4.heap.size, 0, none⟩ = false := frozen_of_row w8 _ 0 _ _ hb8
 have hset := heap_setCell_same _ _ 0 _ _ (.slice a7 (f0.length + f1.length) q7) hb8
 simp only [List.setIfInBounds_toArray, List.set_cons_zero] at hset
 have HSET := hid hset
 have hs8 : ∀ i u, w6.cell? ⟨w.heap.size + 1, i, none⟩ = some u → w8.cell? ⟨w.heap.size + 1, i, none⟩ = some u := fun i u h => K8.out.cellSome h (hnb _ (by have := Z2.out; show w.heap.size + 1 ≤ _; omega))
 clear hS
 go_wp2_with fail
 obtain ⟨A, hA⟩ : ∃ A, w.heap.size = A := ⟨_, rfl⟩
 obtain ⟨nb, hnbb⟩ : ∃ nb, w2.heap.size = nb := ⟨_, rfl⟩
 obtain ⟨bb, hbbb⟩ : ∃ bb, w4.heap.size = bb := ⟨_, rfl⟩
 obtain ⟨kk, hkk⟩ : ∃ kk, f0.length + f1.length = kk := ⟨_, rfl⟩
 obtain ⟨w9, hw9⟩ : ∃ w9, w8.setCell ⟨w4.heap.size, 0, none⟩ (.slice a7 (f0.length + f1.length) q7) = w9 := ⟨_, rfl⟩
 have K9 : Hid (Keeps [] w w9) := by
  have k6 : Keeps [] w w6 := (K2.out.trans K4.out (fun _ _ h => h)).trans K6.out (fun _ _ h => h)
  have k8 : Keeps [] w w8 := k6.trans K8.out (fun x hx hm => by have := HOG.out x hm; have := Z2.out; omega)
  show Keeps _ _ _
  rw [← hw9]
  exact k8.setCell (.inr (by have := Z4.out; have := Z2.out; show _ ≤ w4.heap.size; omega)) _
 have HR9 : Hid (AnewR w9 A wb b nb bb bs base0 last0 (.slice a 0 c) nm a7 kk q7 (f0 ++ f1)) := by
  have hcell : ∀ {x : Addr} {u : Value}, x.block ≠ bb → w8.cell? x = some u → w9.cell? x = some u := fun {x u} hx h => by
   rw [← hw9, ← hbbb] at *
   have k : Keeps [w4.heap.size] w8 (w8.setCell ⟨w4.heap.size, 0, none⟩ (.slice a7 (f0.length + f1.length) q7)) := (Keeps.refl _ _).setCell (by simp) _
   exact k.cellSome h (by simpa using hx)
  have hAb : A ≠ bb ∧ A + 1 ≠ bb ∧ wb ≠ bb ∧ nb ≠ bb := by have h1 := Z4.out; have h2 := Z2.out; omega
  refine ⟨hcell hAb.1 (by rw [← hA]; exact K8.out.cellSome s1 (hnb _ (by have := Z2.out; show w.heap.size ≤ _; omega))), hcell hAb.2.1 (by rw [← hA]; exact hs8 2 _ s4), hcell hAb.2.1 (by rw [← hA]; exact hs8 4 _ s6), ?_, hcell hAb.2.2.2 (by rw [← hnbb]; exact K8.out.cellSome (cell_of_block HN6.out 0) (hnb _ (Nat.le_refl _))), ?_, ?_⟩
  ·exact (K9.out.block wb hwl (by simp)).trans HW.out
  ·rw [← hbbb, ← hw9, ← hkk]
   exact cell_of_block HSET.out 0
  ·rw [← hkk]
   have hr := Reads.ofOwn HO8.out
   have : Reads w8 1 (.slice a7 (f0.length + f1.length) q7) (f0.length + f1.length) (u8s (f0 ++ f1)) := hr
   rw [← hw9]
   have k : Keeps [w4.heap.size] w8 (w8.setCell ⟨w4.heap.size, 0, none⟩ (.slice a7 (f0.length + f1.length) q7)) := (Keeps.refl _ _).setCell (by simp) _
   refine this.keeps k (fun x hx hm => ?_)
   simp at hm
   subst hm
   rcases hb7.out _ hx with h | h
   ·exact hnb4 h
   ·have := Z6.out
    simp at h
    omega
 have HD9 : Hid (DiskAt w9 (fun x => F x ∧ x < A) b d) := by
  have := HD.out.old.k K9.out
  rw [hA] at this
  exact this
 have HCOND : Hid (∀ Fi : Nat → Prop, (∀ x, Fi x → (F x ∧ x < A) ∨ w9.heap.size ≤ x) → ¬ Fi A ∧ ¬ Fi (A + 1) ∧ ¬ Fi wb ∧ ¬ Fi nb ∧ ¬ Fi bb ∧ ∀ x ∈ ownB (.slice a7 kk q7), ¬ Fi x) := fun Fi hFi => by
  have hz : w8.heap.size = w9.heap.size := by rw [← hw9]; simp
  have h1 := Z4.out
  have h2 := Z2.out
  have h6 := Z6.out
  have h8 := K8.out.size
  have key : ∀ y, A ≤ y → y < w9.heap.size → ¬ Fi y := fun y hy hz hf => by
   rcases hFi y hf with h | h
   ·omega
   ·omega
  refine ⟨key A (Nat.le_refl _) (by omega), key _ (by omega) (by omega), fun hf => ?_, key nb (by omega) (by omega), key bb (by omega) (by omega), fun x hx hf => ?_⟩
  ·rcases hFi wb hf with h | h
   ·exact HF.out h.1
   ·omega
  ·have := ownB_ge HO8.out x (by rw [hkk]; exact hx)
   exact key x (by omega) (by omega) hf
 have HKK : Hid (kk = (f0 ++ f1).length ∧ kk ≤ 80) := ⟨by rw [← hkk, List.length_append], by have := HLF.out; have := HLF1.out; omega⟩
 have HXS : Hid (f0 ++ f1 = frameD (recordP 0 [bs, bt]) ++ frameD (recordP 1 [t, v])) := by show _ = _; rw [← HF0.out, ← HF1.out, ← HR0.out, ← HR1.out]
 have HA9 : Hid (A ≤ w9.heap.size) := by show _ ≤ _; rw [← hA]; exact K9.out.size
 have HAA := hid hA
 rw [hw9, hbbb, hnbb, hA, hkk]
 rw [hA] at hwl
 clear hw9 hbbb hnbb hA hkk HR0 HR1 HF0 HF1 HO8 HSET hset hs8 sb8 fb8 hb8 K8 K7 ho7 hk7 hb7 hnb hnb4 HOG HOL sb s1 s2 s3 s4 s5 s6 s7 s8 hwp t2 HO46 HO6 HLF HLF1 HB6 HN6 HB5 HO5 HL1 HS6 HS5 HO4 HN4 HS4 HO3 HN3 HS3 HL0 HNB HBB HS2 HS1 K6 K5 K4 K3 K2 K1 Z6 Z5 Z4 Z3 Z2 Z1 hk8 HMAY hne
 refine wp_loop_rounds 5 ?_
 rw [rounds_succ]
 have i0 : ∀ wx : World, (Instr.index 185 (.agg #[.func (.func 98) #[] #[.pointer (some ⟨A, 0, none⟩)], .func (.func 100) #[] #[.pointer (some ⟨A, 0, none⟩), .pointer (some ⟨bb, 0, none⟩)], .func (.func 102) #[] #[.pointer (some ⟨A, 0, none⟩)], .func (.func 103) #[] #[.pointer (some ⟨A, 0, none⟩), .pointer (some ⟨nb, 0, none⟩)]]) (.int .i64 0)).run Tryz.prog wx = .ok (.func (.func 98) #[] #[.pointer (some ⟨A, 0, none⟩)]) wx := fun _ => by kernel_rfl
 have i1 : ∀ wx : World, (Instr.index 185 (.agg #[.func (.func 98) #[] #[.pointer (some ⟨A, 0, none⟩)], .func (.func 100) #[] #[.pointer (some ⟨A, 0, none⟩), .pointer (some ⟨bb, 0, none⟩)], .func (.func 102) #[] #[.pointer (some ⟨A, 0, none⟩)], .func (.func 103) #[] #[.pointer (some ⟨A, 0, none⟩), .pointer (some ⟨nb, 0, none⟩)]]) (.int .i64 1)).run Tryz.prog wx = .ok (.func (.func 100) #[] #[.pointer (some ⟨A, 0, none⟩), .pointer (some ⟨bb, 0, none⟩)]) wx := fun _ => by kernel_rfl
 have i2 : ∀ wx : World, (Instr.index 185 (.agg #[.func (.func 98) #[] #[.pointer (some ⟨A, 0, none⟩)], .func (.func 100) #[] #[.pointer (some ⟨A, 0, none⟩), .pointer (some ⟨bb, 0, none⟩)], .func (.func 102) #[] #[.pointer (some ⟨A, 0, none⟩)], .func (.func 103) #[] #[.pointer (some ⟨A, 0, none⟩), .pointer (some ⟨nb, 0, none⟩)]]) (.int .i64 2)).run Tryz.prog wx = .ok (.func (.func 102) #[] #[.pointer (some ⟨A, 0, none⟩)]) wx := fun _ => by kernel_rfl
 have i3 : ∀ wx : World, (Instr.index 185 (.agg #[.func (.func 98) #[] #[.pointer (some ⟨A, 0, none⟩)], .func (.func 100) #[] #[.pointer (some ⟨A, 0, none⟩), .pointer (some ⟨bb, 0, none⟩)], .func (.func 102) #[] #[.pointer (some ⟨A, 0, none⟩)], .func (.func 103) #[] #[.pointer (some ⟨A, 0, none⟩), .pointer (some ⟨nb, 0, none⟩)]]) (.int .i64 3)).run Tryz.prog wx = .ok (.func (.func 103) #[] #[.pointer (some ⟨A, 0, none⟩), .pointer (some ⟨nb, 0, none⟩)]) wx := fun _ => by kernel_rfl
 go_wp2_with fail
 refine (wlAnew1_any w9 _ b n wb A d HD9.out HK.out.1 hn HR9.out.c0 (cell_of_block HR9.out.wal 0)).mono ?_
 rintro e w11 ⟨he1, hp1⟩
 rw [HG.out.1] at he1 hp1
 subst he1
 obtain ⟨F1, hd1, hf1, hk1⟩ := hp1
 dsimp only at hd1
 have HD1 := hid hd1
 have HFF1 : Hid (∀ x, F1 x → (F x ∧ x < A) ∨ w9.heap.size ≤ x) := fun x hx => by
  rcases hf1 x hx with h | h
  ·exact .inl h
  ·exact .inr (h)
 have HR1 := hid (HR9.out.k hk1 (HCOND.out _ (fun x h => .inl h)))
 have HS1 : Hid (w9.heap.size ≤ w11.heap.size) := hk1.size
 have HKP1 : Hid (KeepsP F w w11) := (KeepsP.of0 K9.out).trans hk1 (fun x _ h => h.1)
 clear hd1 hf1 hk1
 go_wp2_with fail
 rw [rounds_succ]
 go_wp2_with fail
 refine ((by have := wlAnew2_any w11 F1 b n wb A bb d1 a7 q7 (f0 ++ f1) HD1.out HK.out.2.1 hn HR1.out.c0 (cell_of_block HR1.out.wal 0) (by rw [← HKK.out.1]; exact HR1.out.bbc) (by rw [← HKK.out.1]; exact HR1.out.rd) (by have := HKK.out; omega) (by rw [← HKK.out.1]; exact (HCOND.out _ HFF1.out).2.2.2.2.2); exact this : Calls Tryz.prog 100 #[.pointer (some ⟨A, 0, none⟩), .pointer (some ⟨bb, 0, none⟩)] w11 (DiskEnds w11 F1 b (dappend d1 walTmp (f0 ++ f1))))).mono ?_
 rintro e w12 ⟨he2, hp2⟩
 rw [HXS.out, HG.out.2.1] at he2 hp2
 subst he2
 obtain ⟨F2, hd2, hf2, hk2⟩ := hp2
 dsimp only at hd2
 have HD2 := hid hd2
 have HFF2 : Hid (∀ x, F2 x → (F x ∧ x < A) ∨ w9.heap.size ≤ x) := fun x hx => by
  rcases hf2 x hx with h | h
  ·exact HFF1.out x h
  ·exact .inr (Nat.le_trans HS1.out h)
 have HR2 := hid (HR1.out.k hk2 (HCOND.out _ HFF1.out))
 have HS2 : Hid (w9.heap.size ≤ w12.heap.size) := Nat.le_trans HS1.out hk2.size
 have HKP2 : Hid (KeepsP F w w12) := HKP1.out.trans hk2 (fun x hx h => by rcases HFF1.out x h with h | h; exact h.1; exact absurd (Nat.le_trans K9.out.size h) (by omega))
 clear hd2 hf2 hk2
 go_wp2_with fail
 rw [rounds_succ]
 go_wp2_with fail
 refine (wlAnew3_any w12 F2 b n wb A d2 HD2.out HK.out.2.2.1 hn HR2.out.c0 (cell_of_block HR2.out.wal 0)).mono ?_
 rintro e w13 ⟨he3, hp3⟩
 rw [HG.out.2.2.1] at he3 hp3
 subst he3
 obtain ⟨F3, hd3, hf3, hk3⟩ := hp3
 dsimp only at hd3
 have HD3 := hid hd3
 have HFF3 : Hid (∀ x, F3 x → (F x ∧ x < A) ∨ w9.heap.size ≤ x) := fun x hx => by
  rcases hf3 x hx with h | h
  ·exact HFF2.out x h
  ·exact .inr (Nat.le_trans HS2.out h)
 have HR3 := hid (HR2.out.k hk3 (HCOND.out _ HFF2.out))
 have HS3 : Hid (w9.heap.size ≤ w13.heap.size) := Nat.le_trans HS2.out hk3.size
 have HKP3 : Hid (KeepsP F w w13) := HKP2.out.trans hk3 (fun x hx h => by rcases HFF2.out x h with h | h; exact h.1; exact absurd (Nat.le_trans K9.out.size h) (by omega))
 clear hd3 hf3 hk3
 go_wp2_with fail
 rw [rounds_succ]
 go_wp2_with fail
 refine (wlAnew4_any w13 F3 b n wb A nb d3 nm HD3.out HK.out.2.2.2 hn HR3.out.c0 (cell_of_block HR3.out.wal 0) HR3.out.nmc (by rw [H11.out]; decide)).mono ?_
 rintro e w14 ⟨he4, hp4⟩
 rw [← HNM.out, HG.out.2.2.2] at he4 hp4
 subst he4
 obtain ⟨F4, hd4, hf4, hk4⟩ := hp4
 dsimp only at hd4
 have HD4 := hid hd4
 have HFF4 : Hid (∀ x, F4 x → (F x ∧ x < A) ∨ w9.heap.size ≤ x) := fun x hx => by
  rcases hf4 x hx with h | h
  ·exact HFF3.out x h
  ·exact .inr (Nat.le_trans HS3.out h)
 have HR4 := hid (HR3.out.k hk4 (HCOND.out _ HFF3.out))
 have HS4 : Hid (w9.heap.size ≤ w14.heap.size) := Nat.le_trans HS3.out hk4.size
 have HKP4 : Hid (KeepsP F w w14) := HKP3.out.trans hk4 (fun x hx h => by rcases HFF3.out x h with h | h; exact h.1; exact absurd (Nat.le_trans K9.out.size h) (by omega))
 clear hd4 hf4 hk4
 go_wp2_with fail
 rw [rounds_succ]
 have c0 := HR4.out.c0
 have hwal := HR4.out.wal
 unfold WalBlk ptrV at hwal
 have v0 : w14.cell? ⟨wb, 0, none⟩ = some (.pointer (some ⟨b, 0, none⟩)) := cell_of_block hwal 0
 have v1 : w14.cell? ⟨wb, 1, none⟩ = some (.int .i64 0) := cell_of_block hwal 1
 clear hwal
 go_wp2_with fail
 refine (wlName_any 0 w14 (by decide)).mono ?_
 rintro e w15 ⟨rfl, hk15⟩
 have HR5 := hid (HR4.out.k (F := fun _ => False) (KeepsP.of0 hk15) (by simp))
 have HD5 := hid (HD4.out.k hk15)
 have HKP5 : Hid (KeepsP F w w15) := HKP4.out.trans (F' := fun _ => False) (KeepsP.of0 hk15) (fun _ _ h => h.elim)
 have HS5 : Hid (w9.heap.size ≤ w15.heap.size) := Nat.le_trans HS4.out hk15.size
 rw [show walN 0 = [] by decide]
 clear hk15 c0 v0 v1
 have c0 := HR5.out.c0
 have k2 := HR5.out.k2
 have k4 := HR5.out.k4
 have hwal := HR5.out.wal
 unfold WalBlk ptrV at hwal
 have v1 : w15.cell? ⟨wb, 1, none⟩ = some (.int .i64 0) := cell_of_block hwal 1
 have v2 : w15.cell? ⟨wb, 2, none⟩ = some (.int .i64 base0) := cell_of_block hwal 2
 have v3 : w15.cell? ⟨wb, 3, none⟩ = some (.int .i64 last0) := cell_of_block hwal 3
 have fz : ∀ i, w15.frozen? ⟨wb, i, none⟩ = false := fun i => frozen_of_row w15 wb i _ _ hwal
 have HWB := hid hwal
 have hA1 : A ≠ wb ∧ A + 1 ≠ wb := by have := hwl; omega
 clear hwal
 go_wp2_with fail
 refine Plan.wp_region_plan (fun wx => wx.cell? ⟨A, 0, none⟩ = some (.pointer (some ⟨wb, 0, none⟩)) ∧ wx.cell? ⟨A + 1, 2, none⟩ = some (.int .i64 bs) ∧ wx.cell? ⟨A + 1, 4, none⟩ = some (.slice a 0 c)) 25 [(true, 0), (true, 1), (true, 2), (true, 3), (true, 4), (true, 5), (true, 8), (true, 9), (true, 10), (true, 11), (true, 12), (true, 13), (true, 14), (true, 15), (false, 6), (true, 7), (true, 16), (true, 17), (false, 18), (true, 19), (true, 20), (false, 21), (true, 22), (true, 23), (false, 24)] (by kernel_rfl) (by as_aux_lemma => kernel_rfl) (by kernel_rfl) (fun _ _ _ _ _ h => h) ?_ (fun hS => ?_)
 (·go_simp)
 simp only [Plan.pick, List.append_eq, List.cons_append, List.nil_append, Plan.g1, Plan.g2, Option.getD_some, List.drop_succ_cons, List.drop_zero]
 iterate 14 (first | refine Plan.tA ?_ | refine Plan.tY ?_ | refine Plan.pN ?_ | refine Plan.pU ?_ | fail)
 refine Plan.step ?_
 go_wp2_with fail
 refine ⟨⟨by go_simp, by go_simp, by go_simp⟩, ?_⟩
 iterate 3 (first | refine Plan.tA ?_ | refine Plan.tY ?_ | refine Plan.pN ?_ | refine Plan.pU ?_ | fail)
 refine Plan.step ?_
 go_wp2_with fail
 refine ⟨⟨by go_simp, by go_simp, by go_simp⟩, ?_⟩
 iterate 2 (first | refine Plan.tA ?_ | refine Plan.tY ?_ | refine Plan.pN ?_ | refine Plan.pU ?_ | fail)
 refine Plan.step ?_
 go_wp2_with fail
 refine ⟨⟨by go_simp, by go_simp, by go_simp⟩, ?_⟩
 iterate 2 (first | refine Plan.tA ?_ | refine Plan.tY ?_ | refine Plan.pN ?_ | refine Plan.pU ?_ | fail)
 refine Plan.step ?_
 go_wp2_with fail
 refine ⟨⟨by go_simp, by go_simp, by go_simp⟩, ?_⟩
 refine Plan.fin ?_
 clear hS
 go_wp2_with fail
 go_ret
 refine ⟨rfl, F4, ?_⟩
 have hwal := HR5.out.wal
 unfold WalBlk at hwal
 have hwF := (HCOND.out _ HFF4.out).2.2.1
 have e1 := heap_setCell_same _ _ 1 _ _ (.int .i64 1) hwal
 have e2 := heap_setCell_same _ _ 2 _ _ (.int .i64 bs) e1
 have e3 := heap_setCell_same _ _ 3 _ _ (.int .i64 bs) e2
 simp only [List.setIfInBounds_toArray, List.set_cons_zero, List.set_cons_succ] at e3
 have kk3 : Keeps [wb] w15 (((w15.setCell ⟨wb, 1, none⟩ (.int .i64 1)).setCell ⟨wb, 2, none⟩ (.int .i64 bs)).setCell ⟨wb, 3, none⟩ (.int .i64 bs)) := by exact Keeps.K
 have hd := HD5.out.keep kk3 (fun x hx hf => by simp at hx; subst hx; exact hwF hf)
 have hkp := (HKP5.out.mono (F' := fun x => F x ∨ x = wb) (fun x _ h => .inl h)).trans (KeepsP.of (F := fun x => F x ∨ x = wb) kk3 (by simp)) (fun _ _ h => h)
 have hwp : wrap64 bs = bs := by have := HB3.out; unfold wrap64; omega
 rw [hwp]
 exact ⟨hd.k (by exact Keeps.K), fun x hx => (HFF4.out x hx).imp (fun h => h.1) (fun h => by rw [HAA.out]; exact Nat.le_trans HA9.out h), hkp.trans (F' := fun _ => False) (KeepsP.of0 (by exact Keeps.K)) (fun _ _ h => h.elim), e3⟩
theorem strL_cell {w : World} {base : Nat} {P : Nat → Prop} {a : Option Addr} {c n : Nat} {l : List Nm} (h : OwnAt strL 9 w base P (.slice a n c) l) {k : Nat} {s : Nm} (hs : l[k]? = some s) (hk : k < n) : ∃ g, a = some ⟨g, 0, none⟩ ∧ w.cell? ⟨g, k, none⟩ = some (.string (str s)) := by
 have ho := strL_owns h
 obtain ⟨hl, ⟨hv, hx⟩ | ⟨g, cap, cur, hv, hb, hg, hnc, hcm, hcs, htake⟩⟩ := ho
 ·have hlen : k < l.length := (List.getElem?_eq_some_iff.1 hs).1
  omega
 ·simp only [Value.slice.injEq] at hv
  refine ⟨g, hv.1, ?_⟩
  have hlen : k < l.length := (List.getElem?_eq_some_iff.1 hs).1
  rw [cell_of_row w g k cur _ (0, 0) hg]
  have := congrArg (fun l : List Value => l[k]?) htake
  simp only [Nat.mul_one, List.getElem?_take, hlen, if_true, List.getElem?_map, Array.getElem?_toList, hs, Option.map_some] at this
  exact this
theorem wlClears_good (w : World) (F : Nat → Prop) (b n wb : Nat) (d : DiskD) (base last : Int) (h : DiskAt w F b d) (hw : WalBlk w wb b (n : Int) base last) (hn : n ≤ 1000000) (hf : d.files.length ≤ 1000) (hall : ∀ s ∈ dlist d, Lib.hasPrefix s walB = true → s = walN n) :
 Calls Tryz.prog 91 #[ptrV wb] w fun e w' => e = .returned (.int .i64 0) ∧ Keeps [] w w' := by
 have HL := hid (dkList_any w F b d h hf)
 have HA := hid hall
 have HN := hid hn
 unfold WalBlk ptrV at hw
 have x0 : w.cell? ⟨wb, 0, none⟩ = some (.pointer (some ⟨b, 0, none⟩)) := cell_of_block hw 0
 have x1 : w.cell? ⟨wb, 1, none⟩ = some (.int .i64 (n : Int)) := cell_of_block hw 1
 have HX1 := hid x1
 have hlf : (dlist d).length ≤ 1000 := by unfold dlist; simpa using hf
 have HLF := hid hlf
 clear h hw hall hf hlf hn
 unfold ptrV
 go_enter Tryz.func91, Tryz.ntmps91
 go_wp2_with fail
 refine HL.out.mono ?_
 rintro e w1 ⟨a, c, rfl, ho, hk⟩
 have HO := hid ho
 have K1 := hid hk
 obtain ⟨l, hl⟩ : ∃ l, dlist d = l := ⟨_, rfl⟩
 rw [hl] at HO HA HLF ⊢
 have y1 : w1.cell? ⟨wb, 1, none⟩ = some (.int .i64 (n : Int)) := hk.cellSome x1 (by simp)
 clear ho hk hl x0 x1 HL
 go_wp2_with fail
 go_loopw [12] (fun iv wr => ∃ k : Nat, iv = .int .i64 (k : Int) ∧ k ≤ l.length ∧ Hid (Keeps [] w1 wr)) (fun iv _ => l.length - (intOf iv).toNat)
 case atStart => exact ⟨0, rfl, Nat.zero_le _, by show Keeps _ _ _; exact Keeps.K⟩
 case round =>
  obtain ⟨k, rfl, hk, hW⟩ := hrel
  have HW := hid hW.out
  clear hW
  have j0 : (0 : Int) ≤ (k : Int) := Int.natCast_nonneg _
  have hll := HLF.out
  by_cases hlt : k < l.length
  ·have i1 : (k : Int) < (l.length : Int) := by omega
   have hw1 : IntKind.i64.wrap ((k : Int) + 1) = (k : Int) + 1 := by rw [IntKind.wrap_i64]; omega
   obtain ⟨s, hs⟩ : ∃ s, l[k] = s := ⟨_, rfl⟩
   have hs2 : l[k]? = some s := by rw [List.getElem?_eq_getElem hlt, hs]
   obtain ⟨g, rfl, hcell⟩ := strL_cell HO.out hs2 hlt
   have hcell := HW.out.cellSome hcell (by simp)
   have y2 : wr.cell? ⟨wb, 1, none⟩ = some (.int .i64 (n : Int)) := HW.out.cellSome y1 (by simp)
   have HM : Hid (s ∈ l) := by show _ ∈ _; rw [← hs]; exact List.getElem_mem _
   have HLT := hid hlt
   have hp : Calls Tryz.prog 157 #[.string (str s), .string ⟨#[119, 97, 108, 45]⟩] wr fun e w' => e = .returned (.bool (Lib.hasPrefix s walB)) ∧ wr = w' := by
    refine (Tryz.strings_HasPrefix (str s) ⟨#[119, 97, 108, 45]⟩ wr).mono ?_
    rintro e w' ⟨rfl, hw⟩
    exact ⟨by simp [walB, str], hw.symm⟩
   have HP := hid hp
   clear hs hs2 hlt hp
   rcases hb : Lib.hasPrefix s walB with _ | _
   ·rw [hb] at HP
    clear hb
    go_wp2_with fail
    refine HP.out.mono ?_
    rintro e w' ⟨rfl, rfl⟩
    go_wp2_with fail
    have := HLT.out
    exact ⟨⟨k + 1, rfl, by omega, HW.out⟩, by simp [intOf]; omega⟩
   ·rw [hb] at HP
    have hsn := HA.out s HM.out hb
    have q : (!(str s).toList == (str (walN n)).toList) = false := by rw [hsn]; simp
    have HQ := hid hsn
    clear hb hsn
    go_wp2_with fail
    refine HP.out.mono ?_
    rintro e w' ⟨rfl, rfl⟩
    go_wp2_with fail
    refine (wlName_any n wr (by have := HN.out; omega)).mono ?_
    rintro e w2 ⟨rfl, hk2⟩
    have K2 : Hid (Keeps [] w1 w2) := HW.out.trans hk2 (fun _ _ h => h)
    rw [← HQ.out]
    clear hk2 q
    go_wp2_with fail
    have := HLT.out
    exact ⟨⟨k + 1, rfl, by omega, K2.out⟩, by simp [intOf]; omega⟩
  ·have i1 : (l.length : Int) ≤ (k : Int) := by omega
   go_wp2_with fail
   go_ret
   exact ⟨rfl, K1.out.trans HW.out (fun _ _ h => h)⟩
end Go.Proofs.YtgjiahilbmeaeaaGreatDoor