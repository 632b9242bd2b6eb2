/- Joined of NtC, NtD, NtH, NtE, NtF. -/
import Derived.Test.YtgjiahilbmeaeaaGreatDoorNoI
import Derived.Test.YtgjiahilbmeaeaaGreatDoorR16
import Derived.Test.YtgjiahilbmeaeaaGreatDoorR23
import Derived.Test.YtgjiahilbmeaeaaGreatDoorR18
import Derived.Test.YtgjiahilbmeaeaaGreatDoorR11
set_option maxRecDepth 100000
set_option maxHeartbeats 8000000
set_option linter.unusedSimpArgs false
set_option linter.unusedVariables false
/- The Node laws' own nodes: opened over a new disk. -/
namespace Go.Proofs.YtgjiahilbmeaeaaGreatDoor
open Go Go.RowKit
def dk0 : DiskD := diskNew 1048576
def dk1 : DiskD := (dcreate dk0 walTmp).1
def dk2 : DiskD := (dappend dk1 walTmp (frameD (recordP 0 [0, 0]) ++ frameD (recordP 1 [0, 0]))).1
def dk3 : DiskD := (dsync dk2 walTmp).1
def dk4 : DiskD := (drename dk3 walTmp (walN 1)).1
theorem dk_1 : dcreate dk0 walTmp = (dk1, 0) := by kernel_rfl
theorem dk_2 : dappend dk1 walTmp (frameD (recordP 0 [0, 0]) ++ frameD (recordP 1 [0, 0])) = (dk2, 0) := by kernel_rfl
theorem dk_3 : dsync dk2 walTmp = (dk3, 0) := by kernel_rfl
theorem dk_4 : drename dk3 walTmp (walN 1) = (dk4, 0) := by kernel_rfl
theorem dk_ok : diskOkB dk0 = true ∧ diskOkB dk1 = true ∧ diskOkB dk2 = true ∧ diskOkB dk3 = true ∧ diskOkB dk4 = true := ⟨by kernel_rfl, by kernel_rfl, by kernel_rfl, by kernel_rfl, by kernel_rfl⟩
theorem dk_l0 : dlist dk0 = [] := by kernel_rfl
theorem dk_l4 : dlist dk4 = [walN 1] := by kernel_rfl
theorem dk_sn : numberP snapB (walN 1) 13 = none := by kernel_rfl
def Open23 (snap id : Int) (w : World) (e : Ending) (w' : World) : Prop :=
 ∃ nb p lv sv, e = .returned (.tuple #[ptrV p.db, ptrV nb, .bool true]) ∧ NodeIn w' p nb (nodeNew (conf23D snap) id dk4) lv sv (.slice none 0 0) ∧ Keeps [] w w' ∧ p.B0 = w.heap.size
theorem open23_any (snap n id : Int) (w : World) (hT : Tabs w) (hE : Errs w) (ws : (Lit.int .i64 snap).wf = true) (wn : (Lit.int .i64 n).wf = true) (hi : 1 ≤ id ∧ id ≤ 3) :
 Calls Tryz.prog 4 #[.int .i64 1048576, .int .i64 snap, .int .i64 n, .int .i64 id] w (Open23 snap id w) := by
 have HTE : Hid (TE w w) := ⟨hT, hE, Keeps.refl _ _⟩
 obtain ⟨fs, fin, hfo⟩ := forms_ok (placeOf n 5)
 have HFO := hid hfo
 have HFM := hid (fun wx => lForm_any n wx wn)
 have HCF := hid (fun wx => conf23_any snap wx ws)
 have HI := hid hi
 clear hT hE hfo ws wn hi
 go_enter Tryz.func4, Tryz.ntmps4
 go_wp2_with fail
 refine (HFM.out _).mono ?_
 rintro e w1 ⟨fa, fc, rfl, hl1, hk1⟩
 have hmap := HFO.out.map
 have hlen : fs.length = (formD (placeOf n 5)).length := by rw [← hmap, List.length_map]
 have hsc := scNew_ok fs (formD (placeOf n 5)).length fa fc _ w1 w (HTE.out.k hk1) (by rw [hmap]; exact hl1) hlen HFO.out.len.1 HFO.out.len.2 HFO.out.nodup HFO.out.ok HFO.out.ex HFO.out.ne HFO.out.small HFO.out.all HFO.out.lt
 have HSC := hid hsc
 have K1 := hid hk1
 have HLEN := hid hlen
 obtain ⟨L, hL⟩ : ∃ L, (formD (placeOf n 5)).length = L := ⟨_, rfl⟩
 rw [hL] at HSC ⊢
 have HL := hid hL
 clear hsc hk1 hl1 hmap hlen hL
 unfold ptrV NewEnd at *
 go_wp2_with fail
 refine HSC.out.mono ?_
 rintro e w2 ⟨sb, rfl, hsb, hs2, hk2⟩
 have K2 : Hid (Keeps [] w w2) := K1.out.trans hk2 (fun _ _ h => h)
 have HS2 := hid hs2
 clear hs2 hk2 hsb HSC
 unfold ptrV
 go_wp2_with fail
 refine (dkNew_at _ 1048576).mono ?_
 rintro e w3 ⟨rfl, hd3, hk3⟩
 have HD3 := hid hd3
 have K3 : Hid (Keeps [] w w3) := K2.out.trans hk3 (fun _ _ h => h)
 have K23 := hid hk3
 clear hd3 hk3
 unfold ptrV
 go_wp2_with fail
 refine (HCF.out _).mono ?_
 rintro e w4 ⟨rfl, hk4⟩
 have K4 : Hid (Keeps [] w w4) := K3.out.trans hk4 (fun _ _ h => h)
 have K34 := hid hk4
 have hz : w2.heap.size + 2 ≤ w4.heap.size := by
  have h1 := HD3.out
  obtain ⟨bm, l, -, -, -, h4, -⟩ := h1
  have := (Array.getElem?_eq_some_iff.1 h4).1
  have := hk4.size
  omega
 have HZ := hid hz
 clear hk4 hz
 have hop := noOpen_new w4 w (fun x => w2.heap.size ≤ x ∧ x < w2.heap.size + 2) (w2.heap.size + 1) sb dk0 dk1 dk2 dk3 dk4 (conf23D snap) id _ _ L fin (HTE.out.k K4.out) (fun b hb => ⟨by have := K2.out.size; omega, by have := HZ.out; omega⟩) (HD3.out.k K34.out) dk_l0 dk_ok.1 dk_ok.2.1 dk_ok.2.2.1 dk_ok.2.2.2.1 dk_ok.2.2.2.2 dk_1 dk_2 dk_3 dk_4 dk_l4 dk_sn (HS2.out.k (K23.out.trans K34.out (fun _ _ h => h))) (by rw [← HL.out]; exact HLEN.out) (by rw [← HL.out]; exact HFO.out.len.1) (by rw [← HL.out]; have := HFO.out.len.2; omega) (by
  refine Nat.le_trans (List.length_filter_le _ _) ?_
  show (orderQ fs.length (fs.map (·.needs))).1.length ≤ 1000
  rw [HLEN.out, HFO.out.all]
  have := HFO.out.len.2
  omega) (by
  have h1 := HFO.out.work
  rw [← HLEN.out] at h1
  rw [← HL.out, ← HLEN.out]
  exact h1) (lconfD_may _ _ _ _) (by
  have h3 : (conf23D snap).nodes = 3 := by
   show 3 + placeOf 0 3 = 3
   decide
  rw [h3]
  exact HI.out)
 have HOP := hid hop
 clear hop
 obtain ⟨cf, hcf⟩ : ∃ c, conf23D snap = c := ⟨_, rfl⟩
 have HC := hid hcf
 rw [hcf] at HOP ⊢
 clear hcf
 obtain ⟨e1, e2, e3, e4, e5, e6, e7, e8, e9⟩ := cf
 unfold confV ptrV at HOP
 unfold confV
 go_wp2_with fail
 refine HOP.out.mono ?_
 rintro e w5 ⟨nb, p, lv, sv, rfl, hn, hp1, hp2, hp3, hk, hc⟩
 have HN := hid hn
 have HK := hid hk
 have HP := hid (And.intro hp1 hp3)
 clear hn hp1 hp2 hp3 hk hc HOP
 go_wp2_with fail
 refine bodyPost_ret (v := .tuple #[.pointer (some ⟨w2.heap.size + 1, 0, none⟩), .pointer (some ⟨nb, 0, none⟩), .bool true]) (by simp [results, Tryz.results4, go_sem]) rfl ?_
 refine ⟨nb, p, lv, sv, by rw [HP.out.1]; rfl, by rw [HC.out]; exact HN.out, ?_, HP.out.2⟩
 obtain ⟨G, hG, hg⟩ := HK.out
 exact K4.out.trans hG (fun x hx hm => by have := (hg x hm).1; have := K2.out.size; omega)
def nt0 (snap id : Int) : NodeD := nodeNew (conf23D snap) id dk4
def askM (tt f c : Int) (data : List UInt8) : MsgD := ⟨6, f, tt, 0, 0, 0, c, false, [], data⟩
def appM : MsgD := ⟨3, 3, 2, 4, 0, 0, 0, false, [], []⟩
theorem hearN_asked {nd n2 : NodeD} {f c : Int} {data : List UInt8} (hd : nd.down = false) (hr : nd.core.role ≠ 2) (hf : 101 ≤ f ∧ f ≤ 999) (hg : (getC data).2 = true) (hw : writeN nd = some n2) : hearN nd (askM nd.id f c data) = some (n2, [toldD nd f c false nd.core.leader []]) := by
 unfold hearN
 rw [if_neg (by simp [hd]), if_pos (by rfl)]
 have h1 : askN nd (askM nd.id f c data) = some (nd, [toldD nd f c false nd.core.leader []]) := by
  unfold askN
  rw [if_neg (fun h => by
   rcases h with h | h | h | h
   ·rw [show (askM nd.id f c data).data = data from rfl, hg] at h
    cases h
   ·have h : f < 101 := h
    omega
   ·have h : 999 < f := h
    omega
   ·exact h rfl), if_pos hr]
  rfl
 rw [h1]
 show (writeN nd).map _ = _
 rw [hw]
 rfl
theorem hearN_wrong {nd n2 : NodeD} {f c : Int} {data : List UInt8} (hd : nd.down = false) (hg : (getC data).2 = false) (hw : writeN nd = some n2) : hearN nd (askM nd.id f c data) = some (n2, []) := by
 unfold hearN
 rw [if_neg (by simp [hd]), if_pos (by rfl)]
 have h1 : askN nd (askM nd.id f c data) = some (nd, []) := by
  unfold askN
  rw [if_pos (.inl hg)]
 rw [h1]
 show (writeN nd).map _ = _
 rw [hw]
 rfl
theorem get_open : (getC [2]).2 = true := by kernel_rfl
theorem get_none : (getC [1, 2, 3]).2 = false := by kernel_rfl
theorem nt0_w : writeN (nt0 50 2) = some (nt0 50 2) := by kernel_rfl
theorem nt5_w : writeN (nt0 5 1) = some (nt0 5 1) := by kernel_rfl
def nt1 : NodeD := match hearN (nt0 50 2) appM with
 | some r => r.1
 | none => nt0 50 2
def ntL : List MsgD := match hearN (nt0 50 2) appM with
 | some r => r.2
 | none => []
theorem nt1_h : hearN (nt0 50 2) appM = some (nt1, ntL) := by
 have h : (hearN (nt0 50 2) appM).isSome = true := by kernel_rfl
 cases e : hearN (nt0 50 2) appM with
 | none => rw [e] at h; cases h
 | some r =>
   unfold nt1 ntL
   rw [e]
theorem nt1_w : writeN nt1 = some nt1 := by kernel_rfl
theorem nt1_f : nt1.down = false ∧ nt1.core.role = 0 ∧ nt1.core.leader = 3 ∧ nt1.core.term = 4 ∧ nt1.id = 2 := ⟨by kernel_rfl, by kernel_rfl, by kernel_rfl, by kernel_rfl, by kernel_rfl⟩
theorem cAsk_no (w : World) (B n : Nat) (c : CoreD) (lv sv : Value) (da : Option Addr) (k dc : Nat) (h : CoreAt w B n c lv sv) (hr : c.role ≠ 2) :
 Calls Tryz.prog 54 #[.pointer (some ⟨n, 0, none⟩), .slice da k dc] w fun e w' => e = .returned (.tuple #[.int .i64 0, .slice none 0 0, .int .i64 24]) ∧ w' = w := by
 have h12 : w.cell? ⟨n, 12, none⟩ = some (.int .i64 c.role) := h.blk.cell 12
 have g1 : (c.role != 2) = true := by simpa using hr
 clear h hr
 go_enter Tryz.func54, Tryz.ntmps54
 go_wp2_with fail
 refine bodyPost_ret (v := .tuple #[.int .i64 0, .slice none 0 0, .int .i64 24]) (by simp [results, Tryz.results54, go_sem]) rfl ?_
 exact ⟨rfl, rfl⟩
theorem askC_no {w : World} {p : NoP} {nb : Nat} {nd : NodeD} {lv sv fv : Value} (h : NodeIn w p nb nd lv sv fv) (da : Option Addr) (dc : Nat) (data : List UInt8) : AskC w p nd lv sv da dc data := fun hr wx k => by
 have hc := (h.k k).core
 refine (cAsk_no wx p.B p.cb _ lv sv da data.length dc hc.1 hr).mono ?_
 rintro e w' ⟨he, rfl⟩
 exact ⟨none, 0, lv, sv, he, hc.congr (fun b => by unfold grow; exact ⟨.inl, fun h => h.elim (fun h => h) (fun h => by omega)⟩), Keeps.refl _ _, fun b hb => .inl hb⟩
theorem append_zero (w : World) (B n : Nat) (c : CoreD) (lv sv : Value) (m : MsgD) (ea da : Option Addr) (ec dc : Nat) (h : CoreAt w B n c lv sv) (z1 : c.base = 0) (z2 : c.baseTerm = 0) (z3 : c.commit = 0) (z4 : m.a = 0) (z5 : m.b = 0) (z6 : m.c = 0) (z7 : m.entries = []) :
 Calls Tryz.prog 74 #[.pointer (some ⟨n, 0, none⟩), msgV m (.slice ea m.entries.length ec) (.slice da m.data.length dc)] w (CallPost B n lv (appendD c m) w) := by
 have hD : appendD c m = (c, answerD c m true 0) := by
  unfold appendD
  rw [if_pos (by omega), z7, z4]
  unfold appendAt fitD atD
  rw [if_pos z1.symm, z2, z5]
  unfold putsD
  simp only [Bool.true_and, beq_self_eq_true, Bool.or_true, if_true, List.length_nil]
  rw [z3, z6]
  simp only [Int.natCast_zero, Int.add_zero, Int.min_self, Int.max_self]
  refine Prod.ext ?_ rfl
  show ({ c with commit := 0 } : CoreD) = c
  rw [← z3]
 rw [hD]
 have h14 : w.cell? ⟨n, 14, none⟩ = some (.int .i64 0) := (h.blk.cell 14).trans (by rw [← z3]; rfl)
 have h15 : w.cell? ⟨n, 15, none⟩ = some (.int .i64 0) := (h.blk.cell 15).trans (by rw [← z1]; rfl)
 have f14 : w.frozen? ⟨n, 14, none⟩ = false := h.blk.free 14
 have hlt := h.blk.lt
 have hne : n ≠ w.heap.size := by omega
 have H := hid h
 have hat : atD c 0 = (0, true) := by unfold atD; rw [if_pos z1.symm, z2]
 have HAT := hid hat
 have HZ3 := hid z3
 obtain ⟨k1, k2, k3, k4, k5, k6, k7, k8, k9, k10⟩ := m
 dsimp only at z4 z5 z6 z7
 subst z4 z5 z6 z7
 dsimp only at hD ⊢
 have HAN := hid (fun wx (k : CoreAt wx B n c lv sv) => answer_is wx B n c lv sv ⟨k1, k2, k3, k4, 0, 0, 0, k8, [], k10⟩ ea da ec dc true 0 0 rfl k)
 unfold msgV at HAN ⊢
 dsimp only [List.length_nil] at HAN ⊢
 clear h z1 z2 z3 hat hD
 go_enter Tryz.func74, Tryz.ntmps74
 go_wp2_with fail
 go_step3
 go_wp2_with fail
 go_quiet (fail)
 go_wp2_with fail
 refine (cAt_is _ B n c lv sv (H.out.k (by exact Keeps.K)) 0 0 true (by decide) (by decide) HAT.out).mono ?_
 rintro e w' ⟨rfl, kk, rfl⟩
 go_wp2_with fail
 go_step3
 go_wp2_with fail
 refine wp_loop_rounds 1 ?_
 rw [rounds_succ]
 go_wp2_with fail
 refine Plan.wp_region_plan (fun wx => wx.cell? ⟨n, 14, none⟩ = some (.int .i64 0) ∧ wx.cell? ⟨w.heap.size, 6, none⟩ = some (.int .i64 0)) 10 [(true, 0), (true, 1), (true, 2), (true, 3), (true, 4), (true, 5), (true, 6), (true, 7), (true, 8), (true, 9)] (by kernel_rfl) (by as_aux_lemma => kernel_rfl) (by kernel_rfl) (fun _ _ _ _ _ h => h) ?_ (fun hS => ?_)
 (·go_simp)
 simp only [Plan.pick, List.append_eq, List.cons_append, List.nil_append, Plan.g1, Plan.g2, Option.getD_some, List.drop_succ_cons, List.drop_zero]
 iterate 10 (first | refine Plan.tA ?_ | refine Plan.tY ?_ | refine Plan.pN ?_ | refine Plan.pU ?_ | fail)
 refine Plan.fin ?_
 clear hS
 go_wp2_with fail
 obtain ⟨wz, hwz⟩ : ∃ x, x = (w.alloc (.cells #[.int .i64 k1, .int .i64 k2, .int .i64 k3, .int .i64 k4, .int .i64 0, .int .i64 0, .int .i64 0, .bool k8, .slice ea 0 ec, .slice da k10.length dc] 30)).drewN (nq + kk + 1) := ⟨_, rfl⟩
 rw [← hwz]
 have kz : Keeps [] w wz := by rw [hwz]; exact Keeps.K
 have hz := H.out.k kz
 have ks : Keeps [n] wz (wz.setCell ⟨n, 14, none⟩ (.int .i64 0)) := (Keeps.refl _ _).setCell (.inl (by simp)) _
 have hs : (coreCells c lv sv).set 14 (.int .i64 0) = coreCells c lv sv := by
  have e : (coreCells c lv sv).set 14 (.int .i64 c.commit) = coreCells c lv sv := rfl
  rw [HZ3.out] at e
  exact e
 have hz2 : CoreAt (wz.setCell ⟨n, 14, none⟩ (.int .i64 0)) B n c lv sv := hz.wrote ks (hz.blk.set 14 _ hs) rfl rfl hz.ok
 have HZ := hid hz2
 have KN : Hid (Keeps (n :: ownB lv) w (wz.setCell ⟨n, 14, none⟩ (.int .i64 0))) := (kz.mono (fun _ _ h => by cases h)).trans (F := n :: ownB lv) (ks.mono (fun x _ h => by simp at h; simp [h])) (fun _ _ h => h)
 refine (HAN.out _ hz2).mono ?_
 clear kz hz ks hs hz2 hwz HAN
 intro e w7 hp
 have HP : Hid (CallPost B n lv (c, answerD c ⟨k1, k2, k3, k4, 0, 0, 0, k8, [], k10⟩ true 0) w e w7) := CallPost.tells (r := (c, answerD c ⟨k1, k2, k3, k4, 0, 0, 0, k8, [], k10⟩ true 0)) HZ.out KN.out hp
 obtain ⟨a, q, lv7, sv7, rfl, hp7⟩ := HP.out
 have HP7 := hid hp7
 clear hp hp7 HP
 go_wp2_with fail
 rw [Exit.noGoto_ret]
 go_ret
 exact ⟨a, q, lv7, sv7, rfl, HP7.out⟩
theorem app_hear {w : World} {B : Nat} {C : Nat → Prop} {cb : Nat} {lv sv : Value} (h : CoreIn w B C cb (nt0 50 2).core lv sv) :
 Calls Tryz.prog 21 #[.pointer (some ⟨cb, 0, none⟩), msgV appM (.slice none 0 0) (.slice none 0 0)] w (CoPost B C cb lv (hearD (nt0 50 2).core appM) w) := by
 have hw : wrongD (nt0 50 2).core appM = false := by kernel_rfl
 have h1 := hear_3C w B cb _ _ lv sv appM none none 0 0 h.1 (ListAt.nil _ _ _ _) (BytesAt.nil _ _ _ _) hw rfl rfl (by
  show (stepD (nt0 50 2).core appM).term ≤ 4
  have e : (stepD (nt0 50 2).core appM).term = 4 := by kernel_rfl
  omega) (by
  have e : (stepD (nt0 50 2).core appM).role = 0 := by kernel_rfl
  intro e2
  have e3 : (stepD (nt0 50 2).core appM).role = 2 := e2
  omega) (fun w1 hc _ _ => append_zero w1 B cb _ lv sv appM none none 0 0 hc (by kernel_rfl) (by kernel_rfl) (by kernel_rfl) rfl rfl rfl rfl)
 refine Calls.mono h1 ?_
 rw [hearD_reban]
 rintro e w' ⟨a, q, lv', sv', he, hc, hm, hk, hv⟩
 exact ⟨a, q, lv', sv', he, CoreIn.of h.2 hc hk.size, hm, hk, hv⟩
theorem noHear_ask {w : World} {p : NoP} {nb : Nat} {nd : NodeD} {lv sv fv : Value} (h : NodeIn w p nb nd lv sv fv) (tt f c : Int) (data : List UInt8) (r : NodeD × List MsgD) (hr : hearN nd (askM tt f c data) = some r) (da : Option Addr) (dc : Nat) (hg : GetC w da dc data) :
 Calls Tryz.prog 7 #[.pointer (some ⟨nb, 0, none⟩), msgV (askM tt f c data) (.slice none 0 0) (.slice da data.length dc)] w (NoPost w p lv nb r) :=
 noHear_of w p nb nd lv sv fv h (askM tt f c data) r hr none da 0 dc (fun _ r1 h1 wx k => noAsk_of wx p nb nd lv sv fv (h.k k) (askM tt f c data) r1 h1 _ ⟨_, _, _, rfl⟩ da dc (fun wy ky => hg wy (k.trans ky (fun _ _ h => h))) (askC_no (h.k k) da dc data)) (fun hk => absurd rfl hk)
theorem noHear_app {w : World} {p : NoP} {nb : Nat} {lv sv fv : Value} (h : NodeIn w p nb (nt0 50 2) lv sv fv) : Calls Tryz.prog 7 #[.pointer (some ⟨nb, 0, none⟩), msgV appM (.slice none 0 0) (.slice none 0 0)] w (NoPost w p lv nb (nt1, ntL)) :=
 noHear_of w p nb (nt0 50 2) lv sv fv h appM _ nt1_h none none 0 0 (fun hk => absurd hk (by decide)) (fun _ wx k => app_hear (h.k k).core)
theorem NoPost.since {W w w' : World} {p : NoP} {lv : Value} {nb : Nat} {nd : NodeD} {sv fv : Value} {r : NodeD × List MsgD} {e : Ending} (h : NoPost w p lv nb r e w') (hn : NodeIn w p nb nd lv sv fv) (hB : p.B0 = W.heap.size) (k : Keeps [] W w) : Keeps [] W w' := by
 obtain ⟨a, q, col, lv1, sv1, fv1, -, -, ⟨G, hG, hg⟩, -⟩ := h
 exact k.trans hG (fun x hx hm => by have := (hn.wr_lt (hg x hm)).1; omega)
theorem awake23_any (w : World) (hT : Tabs w) (hE : Errs w) : Calls Tryz.prog 10 #[] w fun e w' => e = .returned (.bool true) ∧ Keeps [] w w' := by
 have HTE : Hid (TE w w) := ⟨hT, hE, Keeps.refl _ _⟩
 have HO := hid (open23_any 5 0 1 w hT hE (by decide) (by decide) (by decide))
 have HPU := hid (fun wx => r14Put_1 wx)
 unfold cmdV at HPU
 clear hT hE
 go_enter Tryz.func10, Tryz.ntmps10
 go_wp2_with fail
 refine HO.out.mono ?_
 rintro e w1 ⟨nb, p, lv, sv, rfl, hn, hk, hB⟩
 have HN := hid hn
 have K1 := hid hk
 have HB := hid hB
 have HT1 := hid (noTerm_any w1 p nb _ lv sv _ hn)
 have HA1 := hid (noApplied_any w1 p nb _ lv sv _ hn)
 have HD1 := hid (noDown_any w1 p nb _ lv sv _ hn)
 rw [show (nodeNew (conf23D 5) 1 dk4).core.term = 0 from rfl] at HT1
 rw [show (nodeNew (conf23D 5) 1 dk4).ap = 0 from rfl] at HA1
 rw [show (nodeNew (conf23D 5) 1 dk4).down = false from rfl] at HD1
 unfold ptrV
 clear hn hk hB HO
 go_wp2_with fail
 refine HT1.out.mono ?_
 rintro e w2 ⟨rfl, hw⟩
 rw [hw]
 clear hw
 go_wp2_with fail
 refine HA1.out.mono ?_
 rintro e w2 ⟨rfl, hw⟩
 rw [hw]
 clear hw
 go_wp2_with fail
 refine HD1.out.mono ?_
 rintro e w2 ⟨rfl, hw⟩
 rw [hw]
 clear hw
 go_wp2_with fail
 refine (HPU.out _).mono ?_
 rintro e w3 ⟨a3, q3, rfl, ho3, hk3⟩
 have K13 : Hid (Keeps [] w1 w3) := Keeps.trans (F := []) (G := []) (by exact Keeps.K) hk3 (fun _ _ h => h)
 have hge : ∀ b ∈ ownB (.slice a3 ([] ++ [2] : List UInt8).length q3), w1.heap.size ≤ b := fun b hb => by have := (ownB_ge ho3 b hb).1; simpa using this
 have HHR := noHear_ask (HN.out.k K13.out) 1 101 4 [2] _ (hearN_asked (nd := nt0 5 1) rfl (by decide) (by decide) get_open nt5_w) a3 q3 (getC_of (BytesAt.ofOwn (P := fun b => w1.heap.size ≤ b) ho3 rfl (fun b hb _ => by simpa using hb)) (.inl rfl))
 unfold msgV at HHR
 have HH := hid HHR
 clear HHR hge ho3 hk3
 go_wp2_with fail
 refine HH.out.mono ?_
 intro e w4 hp
 have hK4 := hp.since (HN.out.k K13.out) HB.out (K1.out.trans K13.out (fun _ _ h => h))
 obtain ⟨a4, q4, col, lv4, sv4, fv4, rfl, -, -, -, -, hl⟩ := hp
 have K4 := hid hK4
 obtain ⟨g, off, q', hv, -, -, hg, -⟩ := hl.addr (by simp)
 simp only [Value.slice.injEq] at hv
 obtain ⟨rfl, -, rfl⟩ := hv
 obtain ⟨cs, ⟨ev, dv, rfl, -⟩, hcs⟩ := hl.get (i := 0) rfl
 have y0 : w4.cell? ⟨g, off, none⟩ = some (.int .i64 7) := by
  have h := hcs 0 _ rfl
  simp only [Nat.zero_mul, Nat.add_zero] at h
  exact h
 have y4 : w4.cell? ⟨g, off + 4, none⟩ = some (.int .i64 0) := by
  have h := hcs 4 _ rfl
  simp only [Nat.zero_mul, Nat.add_zero] at h
  exact h
 have y6 : w4.cell? ⟨g, off + 6, none⟩ = some (.int .i64 4) := by
  have h := hcs 6 _ rfl
  simp only [Nat.zero_mul, Nat.add_zero] at h
  exact h
 have y7 : w4.cell? ⟨g, off + 7, none⟩ = some (.bool false) := by
  have h := hcs 7 _ rfl
  simp only [Nat.zero_mul, Nat.add_zero] at h
  exact h
 clear hcs hl hK4
 go_wp2_with fail
 go_ret
 exact ⟨rfl, K4.out.trans (G := []) (by exact Keeps.K) (fun _ _ h => h)⟩
def Tl (W w : World) (nb : Nat) (nd : NodeD) (keep : Nat → Prop) : Prop :=
 ∃ p lv sv fv, NodeIn w p nb nd lv sv fv ∧ p.B0 = W.heap.size ∧ (∀ b, keep b → p.col b = 0 ∧ W.heap.size ≤ b ∧ b < w.heap.size) ∧ Keeps [] W w
theorem Tl.k {W w w' : World} {nb : Nat} {nd : NodeD} {keep : Nat → Prop} (h : Tl W w nb nd keep) (k : Keeps [] w w') : Tl W w' nb nd keep := by
 obtain ⟨p, lv, sv, fv, hn, hB, hk, hW⟩ := h
 exact ⟨p, lv, sv, fv, hn.k k, hB, fun b hb => ⟨(hk b hb).1, (hk b hb).2.1, Nat.lt_of_lt_of_le (hk b hb).2.2 k.size⟩, hW.trans k (fun _ _ h => h)⟩
theorem Tl.keeps {W w : World} {nb : Nat} {nd : NodeD} {keep : Nat → Prop} (h : Tl W w nb nd keep) : Keeps [] W w := h.elim fun _ h => h.elim fun _ h => h.elim fun _ h => h.elim fun _ h => h.2.2.2
theorem Tl.own {W w w' : World} {nb : Nat} {nd : NodeD} {keep : Nat → Prop} {G : List Nat} (h : Tl W w nb nd keep) (k : Keeps G w w') (hG : ∀ b ∈ G, keep b) : Tl W w' nb nd keep := by
 obtain ⟨p, lv, sv, fv, hn, hB, hk, hW⟩ := h
 exact ⟨p, lv, sv, fv, hn.keep (KeepsP.of k (F := keep) hG) (fun b hb => (hk b hb).1), hB, fun b hb => ⟨(hk b hb).1, (hk b hb).2.1, Nat.lt_of_lt_of_le (hk b hb).2.2 k.size⟩, hW.trans k (fun x hx hm => by have := (hk x (hG x hm)).2.1; omega)⟩
theorem Tl.more {W w w' : World} {nb : Nat} {nd : NodeD} {keep keep' : Nat → Prop} (h : Tl W w nb nd keep) (k : Keeps [] w w') (hk : ∀ b, keep' b → keep b ∨ (w.heap.size ≤ b ∧ b < w'.heap.size)) : Tl W w' nb nd keep' := by
 obtain ⟨p, lv, sv, fv, hn, hB, hkk, hW⟩ := h
 refine ⟨p, lv, sv, fv, hn.k k, hB, fun b hb => ?_, hW.trans k (fun _ _ h => h)⟩
 rcases hk b hb with h | h
 ·exact ⟨(hkk b h).1, (hkk b h).2.1, Nat.lt_of_lt_of_le (hkk b h).2.2 k.size⟩
 ·exact ⟨hn.new0 h.1, Nat.le_trans hW.size h.1, h.2⟩
def TlEnd (W : World) (nb : Nat) (keep : Nat → Prop) (r : NodeD × List MsgD) (w : World) (e : Ending) (w' : World) : Prop :=
 ∃ a q P, e = .returned (.slice a r.2.length q) ∧ Tl W w' nb r.1 keep ∧ ListAt msgL w' P (.slice a r.2.length q) r.2 ∧ w.heap.size ≤ w'.heap.size ∧ ∀ b, keep b → ∀ o, w.heap[b]? = some o → w'.heap[b]? = some o
theorem TlEnd.of {W w : World} {p : NoP} {lv sv fv : Value} {nb : Nat} {nd : NodeD} {keep : Nat → Prop} {r : NodeD × List MsgD} {e : Ending} {w' : World} (hn : NodeIn w p nb nd lv sv fv) (hB : p.B0 = W.heap.size) (hk : ∀ b, keep b → p.col b = 0 ∧ W.heap.size ≤ b ∧ b < w.heap.size) (hW : Keeps [] W w) (hp : NoPost w p lv nb r e w') : TlEnd W nb keep r w e w' := by
 have hK := hp.since hn hB hW
 obtain ⟨a, q, col, lv1, sv1, fv1, he, hn1, ⟨G, hG, hg⟩, hw, hc, hm⟩ := hp
 refine ⟨a, q, _, he, ⟨{ p with col := col }, lv1, sv1, fv1, hn1, hB, fun b hb => ⟨?_, (hk b hb).2.1, Nat.lt_of_lt_of_le (hk b hb).2.2 hG.size⟩, hK⟩, hm, hG.size, fun b hb o ho => (hG.block b (Array.getElem?_eq_some_iff.1 ho).1 (fun hx => hn.not_wr (hk b hb).1 (hg b hx))).trans ho⟩
 refine Classical.byContradiction fun e => ?_
 rcases hc b e with h | h
 ·exact h (hk b hb).1
 ·have := (hk b hb).2.2; omega
theorem Tl.ask {W w : World} {nb : Nat} {nd : NodeD} {keep : Nat → Prop} (h : Tl W w nb nd keep) (hT : Tabs W) (hE : Errs W) (tt f c : Int) (data : List UInt8) (r : NodeD × List MsgD) (hr : hearN nd (askM tt f c data) = some r) (da : Option Addr) (dc : Nat) (hd : BytesAt w keep (.slice da data.length dc) data) (hs : data = [2] ∨ data = [1, 2, 3]) :
 Calls Tryz.prog 7 #[.pointer (some ⟨nb, 0, none⟩), msgV (askM tt f c data) (.slice none 0 0) (.slice da data.length dc)] w (TlEnd W nb keep r w) := by
 obtain ⟨p, lv, sv, fv, hn, hB, hk, hW⟩ := h
 exact (noHear_ask hn tt f c data r hr da dc (getC_of hd hs)).mono fun e w' hp => TlEnd.of hn hB hk hW hp
theorem Tl.app {W w : World} {nb : Nat} {keep : Nat → Prop} (h : Tl W w nb (nt0 50 2) keep) :
 Calls Tryz.prog 7 #[.pointer (some ⟨nb, 0, none⟩), msgV appM (.slice none 0 0) (.slice none 0 0)] w (TlEnd W nb keep (nt1, ntL) w) := by
 obtain ⟨p, lv, sv, fv, hn, hB, hk, hW⟩ := h
 exact (noHear_app hn).mono fun e w' hp => TlEnd.of hn hB hk hW hp
end Go.Proofs.YtgjiahilbmeaeaaGreatDoor