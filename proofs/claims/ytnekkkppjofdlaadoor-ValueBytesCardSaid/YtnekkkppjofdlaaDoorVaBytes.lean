/- ValueBytes, walked. (Printed by gen_bytes.py.) -/
import Derived.Test.YtnekkkppjofdlaaDoorRdE
import Derived.Test.YtnekkkppjofdlaaDoorWireC
import Derived.Test.YtnekkkppjofdlaaDoorVaL
import Derived.Test.YtnekkkppjofdlaaDoorPlan
namespace Go.Proofs.YtnekkkppjofdlaaDoor
open Go Go.RowKit

/-- What a copy of bytes leaves. -/
def CopiedV (bs : List UInt8) (w : World) (e : Ending) (w' : World) : Prop := ∃ a c, e = .returned (.slice a bs.length c) ∧ w'.ownsRow w.heap.size 5 1 (.slice a bs.length c) bs.length (u8s bs) ∧ Keeps [] w w'
set_option maxHeartbeats 400000 in
theorem lawBytesV_any (v : Value) (bs : List UInt8) (w : World) (hr : Reads w 1 v bs.length (u8s bs)) (hb : bs.length ≤ 140737488355328) : Calls Tryd.prog 31 #[v] w (CopiedV bs w) := by
  obtain ⟨i0, hi, hz0, hz1, hz2⟩ := info_parts Tryd.infoU8
  go_enter Tryd.func31, Tryd.ntmps31
  go_wp2_with (at_builtin; refine wpList_append_copy _ rfl (.tmp 3) 50 rfl 5 i0 (.int .u8 0) 1 1 Tryd.underlying50 hi hz0 hz1 hz2 rfl (by decide) v bs.length (u8s bs) rfl hr (u8s_one bs) (by omega) (le_maxLen (by omega)) ?_)
  intro v' w' h1 h2
  obtain ⟨a, c, hv⟩ := len_form h1
  have H := hid hv
  clear hv
  go_wp2
  go_ret
  exact ⟨a, c, congrArg Ending.returned H.out, by rw [← H.out]; exact h1, Keeps.ofGrown h2 (fun _ h => by cases h)⟩

theorem str_append (a b : List UInt8) : str a ++ str b = str (a ++ b) := by
  refine ByteArray.ext ?_
  rw [ByteArray.data_append]
  simp [str]
/-- What was put is read. -/
theorem rdD_intL (l t : List UInt8) (v : Int) (hv : -9223372036854775808 ≤ v ∧ v ≤ 9223372036854775807) : rdD (l ++ (intL v ++ t)) l.length false = (v, l.length + (intL v).length, false) := by
  unfold rdD
  rw [List.drop_left', rdInt_intL v hv t]
  rfl
  rfl
theorem getD_put (v : ValD) (h : checkD v = true) (hk : I64 v.kind) (hn : I64 v.n) : getD (putL v) 0 false = (v, (putL v).length, false) := by
  have hs := checkD_small h
  obtain ⟨k, n, s⟩ := v
  dsimp only at hs hk hn
  have e1 : rdD (putL ⟨k, n, s⟩) 0 false = (k, (intL k).length, false) := by
    have := rdD_intL [] (intL n ++ textL s) k hk
    simpa [putL] using this
  have e2 : rdD (putL ⟨k, n, s⟩) (intL k).length false = (n, (intL k).length + (intL n).length, false) := by
    have := rdD_intL (intL k) (textL s) n hn
    simpa [putL] using this
  have es : s.data.toList.length = s.size := by rw [Array.length_toList]; rfl
  have e3 : rdD (putL ⟨k, n, s⟩) ((intL k).length + (intL n).length) false = ((s.size : Int), (intL k).length + (intL n).length + (intL (s.size : Int)).length, false) := by
    have := rdD_intL (intL k ++ intL n) s.data.toList (s.size : Int) ⟨by omega, by omega⟩
    simpa [putL, textL] using this
  have hlen : (putL ⟨k, n, s⟩).length = (intL k).length + (intL n).length + (intL (s.size : Int)).length + s.size := by
    simp [putL, textL]; omega
  have e4 : countD (putL ⟨k, n, s⟩) ((intL k).length + (intL n).length) false 400 = ((s.size : Int), (intL k).length + (intL n).length + (intL (s.size : Int)).length, false) := by
    unfold countD
    rw [e3, if_neg (by simp [leftD, hlen]; omega)]
  have e5 : rtextD (putL ⟨k, n, s⟩) ((intL k).length + (intL n).length) false 400 = (s.data.toList, (putL ⟨k, n, s⟩).length, false) := by
    unfold rtextD
    rw [e4, if_neg (by simp)]
    refine Prod.ext ?_ (Prod.ext ?_ rfl)
    · show ((putL ⟨k, n, s⟩).drop _).take (s.size : Int).toNat = _
      have : putL ⟨k, n, s⟩ = (intL k ++ intL n ++ intL (s.size : Int)) ++ s.data.toList := by simp [putL, textL]
      rw [this, List.drop_left' (by simp; omega), List.take_of_length_le (by rw [es]; simp)]
    · show _ + (s.size : Int).toNat = _
      rw [hlen]; simp
  have e6 : str s.data.toList = s := by obtain ⟨⟨l⟩⟩ := s; rfl
  unfold getD
  rw [e1]; dsimp only; rw [e2]; dsimp only; rw [e5]; dsimp only
  rw [e6, if_neg (by simp [h])]
theorem putL_len (v : ValD) (hk : I64 v.kind) (hn : I64 v.n) (hs : v.s.size ≤ 1000000) : (putL v).length ≤ 30 + v.s.size ∧ 0 < (putL v).length := by
  have h1 := intL_len hk
  have h2 := intL_len hn
  have h3 := intL_len (show I64 (v.s.size : Int) from ⟨by omega, by omega⟩)
  have h4 : 0 < (intL v.kind).length := Lib.uvarint_pos _
  have es : v.s.data.toList.length = v.s.size := by rw [Array.length_toList]; rfl
  unfold putL textL
  rw [List.length_append, List.length_append, List.length_append, es]
  omega

set_option maxRecDepth 100000 in
set_option maxHeartbeats 3200000 in
theorem bytes_no (k n : Int) (s : ByteArray) (a : Option Addr) (c : Nat) (bs : List UInt8) (w : World) (hT : Tabs w) (hr : Reads w 1 (.slice a bs.length c) bs.length (u8s bs)) (hlt : ∀ b ∈ ownB (.slice a bs.length c), bs.length ≠ 0 → b < w.heap.size) (hb : bs.length ≤ 140737488351232) (hk : I64 k) (hn : I64 n) (h0 : checkD ⟨k, n, s⟩ = false) :
    Calls Tryd.prog 8 #[.agg #[.int .i64 k, .int .i64 n, .string s], .slice a bs.length c] w fun e w' => e = .returned (.bool true) ∧ Keeps [] w w' := by
  have HT := hid hT
  have HR := hid hr
  have HL := hid hlt
  have HK := hid hk
  have HN := hid hn
  have H0 := hid h0
  have HC := hid (r5check_all ⟨k, n, s⟩ _ h0)
  have hbI : (bs.length : Int) ≤ 140737488351232 := by omega
  unfold valV at HC
  clear hT hr hlt hk hn h0
  go_enter Tryd.func8, Tryd.ntmps8
  go_wp2_with fail
  refine (HC.out _ (HT.out.k (by exact Keeps.K))).mono ?_
  rintro e w1 ⟨rfl, hk⟩
  have c0 : w1.cell? ⟨w.heap.size, 0, none⟩ = some (.int .i64 k) := hk.cellSome (by go_simp) (by simp)
  have c1 : w1.cell? ⟨w.heap.size, 1, none⟩ = some (.int .i64 n) := hk.cellSome (by go_simp) (by simp)
  have c2 : w1.cell? ⟨w.heap.size, 2, none⟩ = some (.string s) := hk.cellSome (by go_simp) (by simp)
  have HK1 : Hid (Keeps [] w w1) := Keeps.trans (by exact Keeps.K) hk (fun _ _ h => h)
  clear hk
  have HKb := HK1
  clear HK1 c0 c1 c2
  go_wp2_with fail
  have hpb : bs.length ≤ 140737488355328 := by omega
  refine (lawBytesV_any (.slice a bs.length c) bs _ (HR.out.k0 (by have kk := HKb.out; exact Keeps.K)) hpb).mono ?_
  rintro e u1 ⟨a1, c1, rfl, h1, hk⟩
  have HU1 : Hid (Keeps [] w u1) := Keeps.trans (by have kk := HKb.out; exact Keeps.K) hk (fun _ _ h => h)
  have RU := hid (Reads.ofOwn h1)
  clear hk h1
  go_wp2_with fail
  refine (wNew_any (.slice a1 bs.length c1) bs _ (RU.out.k0 (by exact Keeps.K)) hpb).mono ?_
  rintro e u2 ⟨m1, ar1, cr1, rfl, hm, hR, hk, hO⟩
  have HU2 : Hid (Keeps [] w u2) := Keeps.trans (by have kk := HU1.out; exact Keeps.K) hk (fun _ _ h => h)
  have HRD := hid hR
  have HO := hid hO
  have hm1 : w.heap.size ≤ m1 := Nat.le_trans HU1.out.size hm
  have hm2 : m1 < u2.heap.size := hR.lt
  have hmn : m1 ≠ u2.heap.size := by omega
  clear hk hR hO hm RU
  go_wp2_with fail
  obtain ⟨⟨⟨gk, gn, gs⟩, gp, gb⟩, hg⟩ : ∃ r, getD bs 0 false = r := ⟨_, rfl⟩
  have HG := hid hg
  clear hg
  refine (vGet_any m1 ar1 cr1 bs 0 false _ (HRD.out.k (by exact Keeps.K)) (fun wx kx => HT.out.k ((HU2.out.trans (G := []) (by exact Keeps.K) (fun _ _ h => by cases h)).trans kx (fun b hb hx => by simp at hx; omega)))).mono ?_
  rw [HG.out]
  rintro e u3 ⟨rfl, h1, hk⟩
  have HU3 : Hid (Keeps [] w u3) := (HU2.out.trans (G := []) (by exact Keeps.K) (fun _ _ h => by cases h)).trans hk (fun b hb hx => by simp at hx; omega)
  have hs3 : u2.heap.size < u3.heap.size := by have := hk.size; simp at this; omega
  have hm3 : m1 < u3.heap.size := by omega
  have HD3 : Hid (RdAt 84 u3 m1 ar1 cr1 bs gp gb) := h1
  have HE3 : Hid (RdAt 60 u3 u2.heap.size a c bs 0 false) := ⟨(hk.block _ (by simp) (by simp; omega)).trans (heap_alloc_new _ _), HR.out.k0 HU3.out, fun hz b hb e => by have := HL.out b hb hz; have := HU2.out.size; omega, by omega, hpb⟩
  unfold valV
  dsimp only
  clear hk h1 HRD
  go_wp2_with fail
  refine (r5Get_any u2.heap.size a c bs 0 false _ (HE3.out.k (by exact Keeps.K)) (fun wx kx => HT.out.k ((HU3.out.trans (G := []) (by exact Keeps.K) (fun _ _ h => by cases h)).trans kx (fun b hb hx => by have := HU2.out.size; simp at hx; omega)))).mono ?_
  rw [HG.out]
  rintro e u4 ⟨rfl, h1, hk⟩
  have x0 : u4.cell? ⟨u3.heap.size, 0, none⟩ = some (.int .i64 gk) := hk.cellSome (by go_simp) (by simp; omega)
  have x1 : u4.cell? ⟨u3.heap.size, 1, none⟩ = some (.int .i64 gn) := hk.cellSome (by go_simp) (by simp; omega)
  have x2 : u4.cell? ⟨u3.heap.size, 2, none⟩ = some (.string gs) := hk.cellSome (by go_simp) (by simp; omega)
  have HU4 : Hid (Keeps [] w u4) := (HU3.out.trans (G := []) (by exact Keeps.K) (fun _ _ h => by cases h)).trans hk (fun b hb hx => by have := HU2.out.size; simp at hx; omega)
  have hs4 : u3.heap.size < u4.heap.size := by have := hk.size; simp at this; omega
  have hs24 : u2.heap.size < u4.heap.size := by omega
  have hn24 : u2.heap.size ≠ u4.heap.size := by omega
  have HE4 : Hid (RdAt 60 u4 u2.heap.size a c bs gp gb) := h1
  have HD4 : Hid (RdAt 84 u4 m1 ar1 cr1 bs gp gb) := (HD3.out.k (by exact Keeps.K)).kk hk (by simp; omega) (fun b hb hx => by have := (HO.out b hb).2; simp at hx; omega)
  have yb : u4.cell? ⟨u2.heap.size, 2, none⟩ = some (.bool gb) := cell_of_block h1.row 2
  unfold valV
  dsimp only
  clear hk h1 HD3 HE3
  go_wp2_with fail
  refine Plan.wp_region_plan (fun wx => wx.cell? ⟨u3.heap.size, 0, none⟩ = some (.int .i64 gk) ∧ wx.cell? ⟨u3.heap.size, 1, none⟩ = some (.int .i64 gn) ∧ wx.cell? ⟨u3.heap.size, 2, none⟩ = some (.string gs) ∧ wx.cell? ⟨u4.heap.size, 0, none⟩ = some (.int .i64 gk) ∧ wx.cell? ⟨u4.heap.size, 1, none⟩ = some (.int .i64 gn) ∧ wx.cell? ⟨u4.heap.size, 2, none⟩ = some (.string gs) ∧ wx.cell? ⟨u2.heap.size, 2, none⟩ = some (.bool gb)) 17 [(true, 0), (true, 1), (true, 2), (true, 3), (true, 4), (true, 6), (true, 7), (true, 8), (true, 9), (true, 10), (false, 5), (true, 11), (true, 12), (true, 13), (true, 14), (true, 16), (false, 15)] (by kernel_rfl) (by as_aux_lemma => kernel_rfl) (by kernel_rfl) (fun _ _ _ _ _ h => h) ?_ (fun hS => ?_)
  (· go_simp)
  simp only [Plan.pick, List.append_eq, List.cons_append, List.nil_append, Plan.g1, Plan.g2, Option.getD_some, List.drop_succ_cons, List.drop_zero]
  iterate 10 (first | refine Plan.tA ?_ | refine Plan.tY ?_ | refine Plan.pN ?_ | refine Plan.pU ?_ | fail)
  refine Plan.step ?_
  go_wp2_with fail
  refine (wOk_any m1 ar1 cr1 bs gp gb _ (HD4.out.k (by exact Keeps.K))).mono ?_
  rintro e u5 ⟨rfl, hk⟩
  have fx0 : u5.cell? ⟨u3.heap.size, 0, none⟩ = some (.int .i64 gk) := hk.cellSome (by go_simp) (by simp)
  have fx1 : u5.cell? ⟨u3.heap.size, 1, none⟩ = some (.int .i64 gn) := hk.cellSome (by go_simp) (by simp)
  have fx2 : u5.cell? ⟨u3.heap.size, 2, none⟩ = some (.string gs) := hk.cellSome (by go_simp) (by simp)
  have fy0 : u5.cell? ⟨u4.heap.size, 0, none⟩ = some (.int .i64 gk) := hk.cellSome (by go_simp) (by simp)
  have fy1 : u5.cell? ⟨u4.heap.size, 1, none⟩ = some (.int .i64 gn) := hk.cellSome (by go_simp) (by simp)
  have fy2 : u5.cell? ⟨u4.heap.size, 2, none⟩ = some (.string gs) := hk.cellSome (by go_simp) (by simp)
  have fyb : u5.cell? ⟨u2.heap.size, 2, none⟩ = some (.bool gb) := hk.cellSome (by go_simp) (by simp)
  have K45 : Hid (Keeps [] u4 u5) := Keeps.trans (by exact Keeps.K) hk (fun _ _ h => h)
  clear hk hS x0 x1 x2 yb
  go_wp2_with fail
  refine ⟨?_, ?_⟩
  (· go_simp)
  iterate 5 (first | refine Plan.tA ?_ | refine Plan.tY ?_ | refine Plan.pN ?_ | refine Plan.pU ?_ | fail)
  refine Plan.step ?_
  go_wp2_with fail
  refine (wLeft_any m1 ar1 cr1 bs gp gb _ (HD4.out.k (by have kk := K45.out; exact Keeps.K))).mono ?_
  rintro e u6 ⟨rfl, hk⟩
  have gx0 : u6.cell? ⟨u3.heap.size, 0, none⟩ = some (.int .i64 gk) := hk.cellSome (by go_simp) (by simp)
  have gx1 : u6.cell? ⟨u3.heap.size, 1, none⟩ = some (.int .i64 gn) := hk.cellSome (by go_simp) (by simp)
  have gx2 : u6.cell? ⟨u3.heap.size, 2, none⟩ = some (.string gs) := hk.cellSome (by go_simp) (by simp)
  have gy0 : u6.cell? ⟨u4.heap.size, 0, none⟩ = some (.int .i64 gk) := hk.cellSome (by go_simp) (by simp)
  have gy1 : u6.cell? ⟨u4.heap.size, 1, none⟩ = some (.int .i64 gn) := hk.cellSome (by go_simp) (by simp)
  have gy2 : u6.cell? ⟨u4.heap.size, 2, none⟩ = some (.string gs) := hk.cellSome (by go_simp) (by simp)
  have gyb : u6.cell? ⟨u2.heap.size, 2, none⟩ = some (.bool gb) := hk.cellSome (by go_simp) (by simp)
  have K46 : Hid (Keeps [] u4 u6) := Keeps.trans (by have kk := K45.out; exact Keeps.K) hk (fun _ _ h => h)
  clear hk fx0 fx1 fx2 fy0 fy1 fy2 fyb
  go_wp2_with fail
  refine ⟨?_, ?_⟩
  (· go_simp)
  refine Plan.fin ?_
  go_wp2_with fail
  refine (r3RLeft_any u2.heap.size a c bs gp gb _ (HE4.out.k (by have kk := K46.out; exact Keeps.K))).mono ?_
  rintro e u7 ⟨rfl, hk⟩
  have HU7 : Hid (Keeps [] w u7) := ((HU4.out.trans K46.out (fun _ _ h => by cases h)).trans (G := []) (by exact Keeps.K) (fun _ _ h => by cases h)).trans hk (fun _ _ h => by cases h)
  clear hk gx0 gx1 gx2 gy0 gy1 gy2 gyb
  go_wp2_with fail
  refine (awake5_any _ (HT.out.k (by have kk := HU7.out; exact Keeps.K))).mono ?_
  rintro e u8 ⟨rfl, hk⟩
  have HU8 : Hid (Keeps [] w u8) := (HU7.out.trans (G := []) (by exact Keeps.K) (fun _ _ h => by cases h)).trans hk (fun _ _ h => by cases h)
  clear hk
  go_wp2_with fail
  go_ret
  exact ⟨rfl, HU8.out.trans (G := []) (by exact Keeps.K) (fun _ _ h => by cases h)⟩

set_option maxRecDepth 100000 in
set_option maxHeartbeats 3200000 in
theorem bytes_in (k n : Int) (s : ByteArray) (a : Option Addr) (c : Nat) (bs : List UInt8) (w : World) (hT : Tabs w) (hr : Reads w 1 (.slice a bs.length c) bs.length (u8s bs)) (hlt : ∀ b ∈ ownB (.slice a bs.length c), bs.length ≠ 0 → b < w.heap.size) (hb : bs.length ≤ 140737488351232) (hk : I64 k) (hn : I64 n) (h0 : checkD ⟨k, n, s⟩ = true) :
    Calls Tryd.prog 8 #[.agg #[.int .i64 k, .int .i64 n, .string s], .slice a bs.length c] w fun e w' => e = .returned (.bool true) ∧ Keeps [] w w' := by
  have HT := hid hT
  have HR := hid hr
  have HL := hid hlt
  have HK := hid hk
  have HN := hid hn
  have H0 := hid h0
  have HC := hid (r5check_all ⟨k, n, s⟩ _ h0)
  have hbI : (bs.length : Int) ≤ 140737488351232 := by omega
  unfold valV at HC
  clear hT hr hlt hk hn h0
  go_enter Tryd.func8, Tryd.ntmps8
  go_wp2_with fail
  refine (HC.out _ (HT.out.k (by exact Keeps.K))).mono ?_
  rintro e w1 ⟨rfl, hk⟩
  have c0 : w1.cell? ⟨w.heap.size, 0, none⟩ = some (.int .i64 k) := hk.cellSome (by go_simp) (by simp)
  have c1 : w1.cell? ⟨w.heap.size, 1, none⟩ = some (.int .i64 n) := hk.cellSome (by go_simp) (by simp)
  have c2 : w1.cell? ⟨w.heap.size, 2, none⟩ = some (.string s) := hk.cellSome (by go_simp) (by simp)
  have HK1 : Hid (Keeps [] w w1) := Keeps.trans (by exact Keeps.K) hk (fun _ _ h => h)
  clear hk
  have hs : s.size ≤ 400 := checkD_small H0.out
  have HP := putL_len ⟨k, n, s⟩ HK.out HN.out (by show s.size ≤ _; omega)
  have HG := hid (getD_put ⟨k, n, s⟩ H0.out HK.out HN.out)
  have HPut := hid (fun a1 bs1 hb1 c1 w1 hr1 => vPut_any a1 bs1 bs1.length rfl c1 ⟨k, n, s⟩ w1 hr1 hb1 (by show s.size ≤ _; omega) HK.out HN.out)
  have HPut5 := hid (fun w1 => r5Put_any ⟨k, n, s⟩ w1 (by show s.size ≤ _; omega) HK.out HN.out)
  unfold valV at HPut HPut5
  obtain ⟨pa, hpa⟩ : ∃ pa, putL ⟨k, n, s⟩ = pa := ⟨_, rfl⟩
  rw [hpa] at HP HG HPut HPut5
  clear hpa
  go_wp2_with fail
  refine Plan.wp_region_plan (fun wx => wx.cell? ⟨w.heap.size, 0, none⟩ = some (.int .i64 k) ∧ wx.cell? ⟨w.heap.size, 1, none⟩ = some (.int .i64 n) ∧ wx.cell? ⟨w.heap.size, 2, none⟩ = some (.string s)) 3 [(true, 0), (true, 2), (false, 1)] (by kernel_rfl) (by as_aux_lemma => kernel_rfl) (by kernel_rfl) (fun _ _ _ _ _ h => h) ?_ (fun hS => ?_)
  (· go_simp)
  simp only [Plan.pick, List.append_eq, List.cons_append, List.nil_append, Plan.g1, Plan.g2, Option.getD_some, List.drop_succ_cons, List.drop_zero]
  iterate 2 (first | refine Plan.tA ?_ | refine Plan.tY ?_ | refine Plan.pN ?_ | refine Plan.pU ?_ | fail)
  refine Plan.step ?_
  go_wp2_with fail
  refine (lawBytesV_any (.slice a bs.length c) bs _ (HR.out.k0 (by have kk := HK1.out; exact Keeps.K)) (by omega)).mono ?_
  rintro e w2 ⟨a2, q2, rfl, h1, hk⟩
  have d0 : w2.cell? ⟨w.heap.size, 0, none⟩ = some (.int .i64 k) := hk.cellSome (by go_simp) (by simp)
  have d1 : w2.cell? ⟨w.heap.size, 1, none⟩ = some (.int .i64 n) := hk.cellSome (by go_simp) (by simp)
  have d2 : w2.cell? ⟨w.heap.size, 2, none⟩ = some (.string s) := hk.cellSome (by go_simp) (by simp)
  have HK2 : Hid (Keeps [] w w2) := Keeps.trans (by have kk := HK1.out; exact Keeps.K) hk (fun _ _ h => h)
  have R2 := hid (Reads.ofOwn h1)
  clear hk h1 hS c0 c1 c2
  go_wp2_with fail
  refine ⟨?_, ?_⟩
  (· go_simp)
  refine Plan.fin ?_
  go_wp2_with fail
  refine (HPut.out a2 bs (by show _ + s.size ≤ _; omega) q2 _ (R2.out.k0 (by exact Keeps.K))).mono ?_
  rintro e w3 ⟨a3, q3, rfl, h1, hk⟩
  obtain ⟨xs, hxs⟩ : ∃ xs, bs ++ pa = xs := ⟨_, rfl⟩
  rw [hxs] at h1 ⊢
  have HX := hid hxs
  have HXL : Hid (xs.length = bs.length + pa.length) := (by rw [← hxs, List.length_append] : xs.length = bs.length + pa.length)
  clear hxs
  have c0 : w3.cell? ⟨w.heap.size, 0, none⟩ = some (.int .i64 k) := hk.cellSome (by go_simp) (by simp)
  have c1 : w3.cell? ⟨w.heap.size, 1, none⟩ = some (.int .i64 n) := hk.cellSome (by go_simp) (by simp)
  have c2 : w3.cell? ⟨w.heap.size, 2, none⟩ = some (.string s) := hk.cellSome (by go_simp) (by simp)
  have HK3 : Hid (Keeps [] w w3) := Keeps.trans (by have kk := HK2.out; exact Keeps.K) hk (fun _ _ h => h)
  have R3 := hid (Reads.ofOwn h1)
  clear hk h1 d0 d1 d2 R2
  obtain ⟨g, off, rfl, hq3⟩ : ∃ g off, a3 = some ⟨g, off, none⟩ ∧ xs.length ≤ q3 ∧ q3 ≤ maxLen := by
    have hxl := HXL.out
    rcases R3.out.2 with ⟨h0, _⟩ | ⟨_, g, off, c', hv, h1, h2, _⟩
    · omega
    · cases hv
      exact ⟨g, off, rfl, h1, h2⟩
  have hle : bs.length ≤ xs.length := by have := HXL.out; omega
  have hne : ¬ q3 = bs.length := by have := HXL.out; omega
  have HRX : Hid (∀ wx, Keeps [] w3 wx → Reads wx 1 (.slice (some ⟨g, off + bs.length, none⟩) (xs.length - bs.length) (q3 - bs.length)) pa.length (u8s pa)) := fun wx kx => by
    have hxl := HXL.out
    have hq := hq3.2
    have r := (Reads.piece1 (R3.out.k0 kx) bs.length pa.length (q3 - bs.length) (some ⟨g, off + bs.length, none⟩) (by omega) (by omega) (by omega) (by intro b' o' e _; cases e; rfl))
    rw [← HX.out, List.drop_left' rfl, List.take_of_length_le (Nat.le_refl _)] at r
    have e : xs.length - bs.length = pa.length := by omega
    rw [e]
    exact r
  go_wp2_with fail
  have CX : Hid (∀ wx, Keeps [] w3 wx → (convert 50 9 (.slice (some ⟨g, off, none⟩) xs.length q3)).run Tryd.prog wx = .ok (.string (str xs)) wx) := fun wx kx => run_convert_str wx 50 9 5 _ _ Tryd.underlying50 Tryd.underlying5 Tryd.underlying9 (R3.out.k0 kx)
  have CB : Hid (∀ wx, Keeps [] w3 wx → (convert 50 9 (.slice a bs.length c)).run Tryd.prog wx = .ok (.string (str bs)) wx) := fun wx kx => run_convert_str wx 50 9 5 _ _ Tryd.underlying50 Tryd.underlying5 Tryd.underlying9 (HR.out.k0 (HK3.out.trans kx (fun _ _ h => by cases h)))
  have s0 := CX.out _ (show Keeps [] w3 (w3.drew) by exact Keeps.K)
  have s1 := CB.out _ (show Keeps [] w3 (w3.drew) by exact Keeps.K)
  refine Plan.wp_region_plan (fun wx => wx.cell? ⟨w.heap.size, 0, none⟩ = some (.int .i64 k) ∧ wx.cell? ⟨w.heap.size, 1, none⟩ = some (.int .i64 n) ∧ wx.cell? ⟨w.heap.size, 2, none⟩ = some (.string s) ∧ (convert 50 9 (.slice (some ⟨g, off, none⟩) xs.length q3)).run Tryd.prog wx = .ok (.string (str xs)) wx ∧ (convert 50 9 (.slice a bs.length c)).run Tryd.prog wx = .ok (.string (str bs)) wx) 8 [(true, 0), (true, 1), (true, 2), (true, 3), (true, 4), (false, 5), (false, 6), (false, 7)] (by kernel_rfl) (by as_aux_lemma => kernel_rfl) (by kernel_rfl) (fun _ _ _ _ _ h => h) ?_ (fun hS => ?_)
  (· refine ⟨?_, ?_, ?_, CX.out _ (by exact Keeps.K), CB.out _ (by exact Keeps.K)⟩ <;> go_simp)
  simp only [Plan.pick, List.append_eq, List.cons_append, List.nil_append, Plan.g1, Plan.g2, Option.getD_some, List.drop_succ_cons, List.drop_zero]
  iterate 5 (first | refine Plan.tA ?_ | refine Plan.tY ?_ | refine Plan.pN ?_ | refine Plan.pU ?_ | fail)
  refine Plan.step ?_
  go_wp2_with fail
  refine (HPut5.out _).mono ?_
  rintro e w4 ⟨a4, q4, rfl, h1, hk⟩
  rw [List.nil_append] at h1 ⊢
  have d0 : w4.cell? ⟨w.heap.size, 0, none⟩ = some (.int .i64 k) := hk.cellSome (by go_simp) (by simp)
  have d1 : w4.cell? ⟨w.heap.size, 1, none⟩ = some (.int .i64 n) := hk.cellSome (by go_simp) (by simp)
  have d2 : w4.cell? ⟨w.heap.size, 2, none⟩ = some (.string s) := hk.cellSome (by go_simp) (by simp)
  have K34 : Hid (Keeps [] w3 w4) := Keeps.trans (by exact Keeps.K) hk (fun _ _ h => h)
  have HK4 : Hid (Keeps [] w w4) := HK3.out.trans K34.out (fun _ _ h => by cases h)
  have cv : (convert 50 9 (.slice a4 pa.length q4)).run Tryd.prog w4 = .ok (.string (str pa)) w4 := run_convert_str w4 50 9 5 _ _ Tryd.underlying50 Tryd.underlying5 Tryd.underlying9 (Reads.ofOwn h1)
  have hcat : str bs ++ str pa = str xs := by rw [← HX.out]; exact str_append bs pa
  have hz0 : (str bs).size = bs.length := rfl
  have hz1 : (str pa).size = pa.length := rfl
  have hz2 : (bs.length : Int) + (pa.length : Int) ≤ 140737488355328 := by omega
  clear hk h1 hS c0 c1 c2 s0 s1
  go_wp2_with fail
  refine ⟨?_, ?_⟩
  (· refine ⟨d0, d1, d2, CX.out _ (by have kk := K34.out; exact Keeps.K), CB.out _ (by have kk := K34.out; exact Keeps.K)⟩)
  refine Plan.step ?_
  go_wp2_with fail
  refine ⟨?_, ?_⟩
  (· refine ⟨d0, d1, d2, CX.out _ (by have kk := K34.out; exact Keeps.K), CB.out _ (by have kk := K34.out; exact Keeps.K)⟩)
  refine Plan.step ?_
  go_wp2_with fail
  refine ⟨?_, ?_⟩
  (· refine ⟨d0, d1, d2, CX.out _ (by have kk := K34.out; exact Keeps.K), CB.out _ (by have kk := K34.out; exact Keeps.K)⟩)
  refine Plan.fin ?_
  go_wp2_with fail
  refine (wNew_any (.slice (some ⟨g, off + bs.length, none⟩) (xs.length - bs.length) (q3 - bs.length)) pa _ (HRX.out _ (by have kk := K34.out; exact Keeps.K)) (by omega)).mono ?_
  rintro e w5 ⟨m, ar, cr, rfl, hm, hR, hk, hO⟩
  have e0 : w5.cell? ⟨w.heap.size, 0, none⟩ = some (.int .i64 k) := hk.cellSome (by go_simp) (by simp)
  have e1 : w5.cell? ⟨w.heap.size, 1, none⟩ = some (.int .i64 n) := hk.cellSome (by go_simp) (by simp)
  have e2 : w5.cell? ⟨w.heap.size, 2, none⟩ = some (.string s) := hk.cellSome (by go_simp) (by simp)
  have HK5 : Hid (Keeps [] w w5) := Keeps.trans (by have kk := HK4.out; exact Keeps.K) hk (fun _ _ h => h)
  have HR5 := hid hR
  have hmw : w.heap.size < m := Nat.lt_of_lt_of_le (World.block_lt_of_cell? _ _ d0) hm
  clear hk hR hO hm hz0 hz1 hz2 hcat cv d0 d1 d2
  go_wp2_with fail
  refine Plan.wp_region_plan (fun wx => wx.cell? ⟨w.heap.size, 0, none⟩ = some (.int .i64 k) ∧ wx.cell? ⟨w.heap.size, 1, none⟩ = some (.int .i64 n) ∧ wx.cell? ⟨w.heap.size, 2, none⟩ = some (.string s)) 3 [(true, 0), (true, 2), (false, 1)] (by kernel_rfl) (by as_aux_lemma => kernel_rfl) (by kernel_rfl) (fun _ _ _ _ _ h => h) ?_ (fun hS => ?_)
  (· go_simp)
  simp only [Plan.pick, List.append_eq, List.cons_append, List.nil_append, Plan.g1, Plan.g2, Option.getD_some, List.drop_succ_cons, List.drop_zero]
  iterate 2 (first | refine Plan.tA ?_ | refine Plan.tY ?_ | refine Plan.pN ?_ | refine Plan.pU ?_ | fail)
  refine Plan.step ?_
  go_wp2_with fail
  refine (vGet_any m ar cr pa 0 false _ (HR5.out.k (by exact Keeps.K)) (fun wx kx => HT.out.k ((HK5.out.trans (G := []) (by exact Keeps.K) (fun _ _ h => by cases h)).trans kx (fun b hb hx => by simp at hx; omega)))).mono ?_
  rw [HG.out]
  rintro e w6 ⟨rfl, h1, hk⟩
  have f0 : w6.cell? ⟨w.heap.size, 0, none⟩ = some (.int .i64 k) := hk.cellSome (by go_simp) (by simp; omega)
  have f1 : w6.cell? ⟨w.heap.size, 1, none⟩ = some (.int .i64 n) := hk.cellSome (by go_simp) (by simp; omega)
  have f2 : w6.cell? ⟨w.heap.size, 2, none⟩ = some (.string s) := hk.cellSome (by go_simp) (by simp; omega)
  have HK6 : Hid (Keeps [] w w6) := (HK5.out.trans (G := []) (by exact Keeps.K) (fun _ _ h => by cases h)).trans hk (fun b hb hx => by simp at hx; omega)
  have HR6 : Hid (RdAt 84 w6 m ar cr pa pa.length false) := h1
  unfold valV
  dsimp only
  clear hk h1 hS e0 e1 e2
  go_wp2_with fail
  refine ⟨?_, ?_⟩
  (· go_simp)
  refine Plan.fin ?_
  go_wp2_with fail
  refine (wEnd_any m ar cr pa pa.length false _ (HR6.out.k (by exact Keeps.K))).mono ?_
  rw [show (!false && pa.length == pa.length) = true by simp]
  rintro e wb ⟨rfl, hk⟩
  have HKb : Hid (Keeps [] w wb) := (HK6.out.trans (G := []) (by exact Keeps.K) (fun _ _ h => by cases h)).trans hk (fun b hb hx => by cases hx)
  clear hk f0 f1 f2 HR5 HR6 HRX R3 CX CB hle hne hq3 HK1 HK2 HK3 HK4 HK5 HK6 K34 HPut HPut5 HP HG HX HXL
  go_wp2_with fail
  have hpb : bs.length ≤ 140737488355328 := by omega
  refine (lawBytesV_any (.slice a bs.length c) bs _ (HR.out.k0 (by have kk := HKb.out; exact Keeps.K)) hpb).mono ?_
  rintro e u1 ⟨a1, c1, rfl, h1, hk⟩
  have HU1 : Hid (Keeps [] w u1) := Keeps.trans (by have kk := HKb.out; exact Keeps.K) hk (fun _ _ h => h)
  have RU := hid (Reads.ofOwn h1)
  clear hk h1
  go_wp2_with fail
  refine (wNew_any (.slice a1 bs.length c1) bs _ (RU.out.k0 (by exact Keeps.K)) hpb).mono ?_
  rintro e u2 ⟨m1, ar1, cr1, rfl, hm, hR, hk, hO⟩
  have HU2 : Hid (Keeps [] w u2) := Keeps.trans (by have kk := HU1.out; exact Keeps.K) hk (fun _ _ h => h)
  have HRD := hid hR
  have HO := hid hO
  have hm1 : w.heap.size ≤ m1 := Nat.le_trans HU1.out.size hm
  have hm2 : m1 < u2.heap.size := hR.lt
  have hmn : m1 ≠ u2.heap.size := by omega
  clear hk hR hO hm RU
  go_wp2_with fail
  obtain ⟨⟨⟨gk, gn, gs⟩, gp, gb⟩, hg⟩ : ∃ r, getD bs 0 false = r := ⟨_, rfl⟩
  have HG := hid hg
  clear hg
  refine (vGet_any m1 ar1 cr1 bs 0 false _ (HRD.out.k (by exact Keeps.K)) (fun wx kx => HT.out.k ((HU2.out.trans (G := []) (by exact Keeps.K) (fun _ _ h => by cases h)).trans kx (fun b hb hx => by simp at hx; omega)))).mono ?_
  rw [HG.out]
  rintro e u3 ⟨rfl, h1, hk⟩
  have HU3 : Hid (Keeps [] w u3) := (HU2.out.trans (G := []) (by exact Keeps.K) (fun _ _ h => by cases h)).trans hk (fun b hb hx => by simp at hx; omega)
  have hs3 : u2.heap.size < u3.heap.size := by have := hk.size; simp at this; omega
  have hm3 : m1 < u3.heap.size := by omega
  have HD3 : Hid (RdAt 84 u3 m1 ar1 cr1 bs gp gb) := h1
  have HE3 : Hid (RdAt 60 u3 u2.heap.size a c bs 0 false) := ⟨(hk.block _ (by simp) (by simp; omega)).trans (heap_alloc_new _ _), HR.out.k0 HU3.out, fun hz b hb e => by have := HL.out b hb hz; have := HU2.out.size; omega, by omega, hpb⟩
  unfold valV
  dsimp only
  clear hk h1 HRD
  go_wp2_with fail
  refine (r5Get_any u2.heap.size a c bs 0 false _ (HE3.out.k (by exact Keeps.K)) (fun wx kx => HT.out.k ((HU3.out.trans (G := []) (by exact Keeps.K) (fun _ _ h => by cases h)).trans kx (fun b hb hx => by have := HU2.out.size; simp at hx; omega)))).mono ?_
  rw [HG.out]
  rintro e u4 ⟨rfl, h1, hk⟩
  have x0 : u4.cell? ⟨u3.heap.size, 0, none⟩ = some (.int .i64 gk) := hk.cellSome (by go_simp) (by simp; omega)
  have x1 : u4.cell? ⟨u3.heap.size, 1, none⟩ = some (.int .i64 gn) := hk.cellSome (by go_simp) (by simp; omega)
  have x2 : u4.cell? ⟨u3.heap.size, 2, none⟩ = some (.string gs) := hk.cellSome (by go_simp) (by simp; omega)
  have HU4 : Hid (Keeps [] w u4) := (HU3.out.trans (G := []) (by exact Keeps.K) (fun _ _ h => by cases h)).trans hk (fun b hb hx => by have := HU2.out.size; simp at hx; omega)
  have hs4 : u3.heap.size < u4.heap.size := by have := hk.size; simp at this; omega
  have hs24 : u2.heap.size < u4.heap.size := by omega
  have hn24 : u2.heap.size ≠ u4.heap.size := by omega
  have HE4 : Hid (RdAt 60 u4 u2.heap.size a c bs gp gb) := h1
  have HD4 : Hid (RdAt 84 u4 m1 ar1 cr1 bs gp gb) := (HD3.out.k (by exact Keeps.K)).kk hk (by simp; omega) (fun b hb hx => by have := (HO.out b hb).2; simp at hx; omega)
  have yb : u4.cell? ⟨u2.heap.size, 2, none⟩ = some (.bool gb) := cell_of_block h1.row 2
  unfold valV
  dsimp only
  clear hk h1 HD3 HE3
  go_wp2_with fail
  refine Plan.wp_region_plan (fun wx => wx.cell? ⟨u3.heap.size, 0, none⟩ = some (.int .i64 gk) ∧ wx.cell? ⟨u3.heap.size, 1, none⟩ = some (.int .i64 gn) ∧ wx.cell? ⟨u3.heap.size, 2, none⟩ = some (.string gs) ∧ wx.cell? ⟨u4.heap.size, 0, none⟩ = some (.int .i64 gk) ∧ wx.cell? ⟨u4.heap.size, 1, none⟩ = some (.int .i64 gn) ∧ wx.cell? ⟨u4.heap.size, 2, none⟩ = some (.string gs) ∧ wx.cell? ⟨u2.heap.size, 2, none⟩ = some (.bool gb)) 17 [(true, 0), (true, 1), (true, 2), (true, 3), (true, 4), (true, 6), (true, 7), (true, 8), (true, 9), (true, 10), (false, 5), (true, 11), (true, 12), (true, 13), (true, 14), (true, 16), (false, 15)] (by kernel_rfl) (by as_aux_lemma => kernel_rfl) (by kernel_rfl) (fun _ _ _ _ _ h => h) ?_ (fun hS => ?_)
  (· go_simp)
  simp only [Plan.pick, List.append_eq, List.cons_append, List.nil_append, Plan.g1, Plan.g2, Option.getD_some, List.drop_succ_cons, List.drop_zero]
  iterate 10 (first | refine Plan.tA ?_ | refine Plan.tY ?_ | refine Plan.pN ?_ | refine Plan.pU ?_ | fail)
  refine Plan.step ?_
  go_wp2_with fail
  refine (wOk_any m1 ar1 cr1 bs gp gb _ (HD4.out.k (by exact Keeps.K))).mono ?_
  rintro e u5 ⟨rfl, hk⟩
  have fx0 : u5.cell? ⟨u3.heap.size, 0, none⟩ = some (.int .i64 gk) := hk.cellSome (by go_simp) (by simp)
  have fx1 : u5.cell? ⟨u3.heap.size, 1, none⟩ = some (.int .i64 gn) := hk.cellSome (by go_simp) (by simp)
  have fx2 : u5.cell? ⟨u3.heap.size, 2, none⟩ = some (.string gs) := hk.cellSome (by go_simp) (by simp)
  have fy0 : u5.cell? ⟨u4.heap.size, 0, none⟩ = some (.int .i64 gk) := hk.cellSome (by go_simp) (by simp)
  have fy1 : u5.cell? ⟨u4.heap.size, 1, none⟩ = some (.int .i64 gn) := hk.cellSome (by go_simp) (by simp)
  have fy2 : u5.cell? ⟨u4.heap.size, 2, none⟩ = some (.string gs) := hk.cellSome (by go_simp) (by simp)
  have fyb : u5.cell? ⟨u2.heap.size, 2, none⟩ = some (.bool gb) := hk.cellSome (by go_simp) (by simp)
  have K45 : Hid (Keeps [] u4 u5) := Keeps.trans (by exact Keeps.K) hk (fun _ _ h => h)
  clear hk hS x0 x1 x2 yb
  go_wp2_with fail
  refine ⟨?_, ?_⟩
  (· go_simp)
  iterate 5 (first | refine Plan.tA ?_ | refine Plan.tY ?_ | refine Plan.pN ?_ | refine Plan.pU ?_ | fail)
  refine Plan.step ?_
  go_wp2_with fail
  refine (wLeft_any m1 ar1 cr1 bs gp gb _ (HD4.out.k (by have kk := K45.out; exact Keeps.K))).mono ?_
  rintro e u6 ⟨rfl, hk⟩
  have gx0 : u6.cell? ⟨u3.heap.size, 0, none⟩ = some (.int .i64 gk) := hk.cellSome (by go_simp) (by simp)
  have gx1 : u6.cell? ⟨u3.heap.size, 1, none⟩ = some (.int .i64 gn) := hk.cellSome (by go_simp) (by simp)
  have gx2 : u6.cell? ⟨u3.heap.size, 2, none⟩ = some (.string gs) := hk.cellSome (by go_simp) (by simp)
  have gy0 : u6.cell? ⟨u4.heap.size, 0, none⟩ = some (.int .i64 gk) := hk.cellSome (by go_simp) (by simp)
  have gy1 : u6.cell? ⟨u4.heap.size, 1, none⟩ = some (.int .i64 gn) := hk.cellSome (by go_simp) (by simp)
  have gy2 : u6.cell? ⟨u4.heap.size, 2, none⟩ = some (.string gs) := hk.cellSome (by go_simp) (by simp)
  have gyb : u6.cell? ⟨u2.heap.size, 2, none⟩ = some (.bool gb) := hk.cellSome (by go_simp) (by simp)
  have K46 : Hid (Keeps [] u4 u6) := Keeps.trans (by have kk := K45.out; exact Keeps.K) hk (fun _ _ h => h)
  clear hk fx0 fx1 fx2 fy0 fy1 fy2 fyb
  go_wp2_with fail
  refine ⟨?_, ?_⟩
  (· go_simp)
  refine Plan.fin ?_
  go_wp2_with fail
  refine (r3RLeft_any u2.heap.size a c bs gp gb _ (HE4.out.k (by have kk := K46.out; exact Keeps.K))).mono ?_
  rintro e u7 ⟨rfl, hk⟩
  have HU7 : Hid (Keeps [] w u7) := ((HU4.out.trans K46.out (fun _ _ h => by cases h)).trans (G := []) (by exact Keeps.K) (fun _ _ h => by cases h)).trans hk (fun _ _ h => by cases h)
  clear hk gx0 gx1 gx2 gy0 gy1 gy2 gyb
  go_wp2_with fail
  refine (awake5_any _ (HT.out.k (by have kk := HU7.out; exact Keeps.K))).mono ?_
  rintro e u8 ⟨rfl, hk⟩
  have HU8 : Hid (Keeps [] w u8) := (HU7.out.trans (G := []) (by exact Keeps.K) (fun _ _ h => by cases h)).trans hk (fun _ _ h => by cases h)
  clear hk
  go_wp2_with fail
  go_ret
  exact ⟨rfl, HU8.out.trans (G := []) (by exact Keeps.K) (fun _ _ h => by cases h)⟩

theorem bytes_any (v : ValD) (a : Option Addr) (c : Nat) (bs : List UInt8) (w : World) (hT : Tabs w) (hr : Reads w 1 (.slice a bs.length c) bs.length (u8s bs)) (hlt : ∀ b ∈ ownB (.slice a bs.length c), bs.length ≠ 0 → b < w.heap.size) (hb : bs.length ≤ 140737488351232) (hk : I64 v.kind) (hn : I64 v.n) :
    Calls Tryd.prog 8 #[valV v, .slice a bs.length c] w fun e w' => e = .returned (.bool true) ∧ Keeps [] w w' := by
  obtain ⟨k, n, s⟩ := v
  rcases h : checkD ⟨k, n, s⟩ with _ | _
  · exact bytes_no k n s a c bs w hT hr hlt hb hk hn h
  · exact bytes_in k n s a c bs w hT hr hlt hb hk hn h

end Go.Proofs.YtnekkkppjofdlaaDoor
