/- LexJoin: two texts with a blank between. -/
import Derived.Test.YtdpbjdkkaekebaaDoorLxP
namespace Go.Proofs.YtdpbjdkkaekebaaDoor
open Go Go.RowKit

/-- The tokens of a ++ " " ++ b. -/
theorem lexR_join {A B : List UInt8} (hA : A.length ≤ 190) (hB : B.length ≤ 190) (h0 : (lexR A).2.2 = 0) :
    ((lexR B).2.2 ≠ 0 → lexR (A ++ 32 :: B) = ([], A.length + 1 + (lexR B).2.1, 5)) ∧
    ((lexR B).2.2 = 0 → lexR (A ++ 32 :: B) = ((lexR A).1.dropLast ++ (lexR B).1.map fun t => { t with at_ := t.at_ + (A.length + 1) }, 0, 0)) := by
  obtain ⟨_, _, hl, _⟩ := lexR_ok h0
  have hj := lex_join B A.length A 0 _ (Nat.le_refl _) hl
  have hs := lex_shift (A.length + 1) B.length B 0 (Nat.le_refl _)
  rw [Nat.zero_add] at hs hj
  rw [hs] at hj
  have hlen : (A ++ 32 :: B).length ≤ 400 := by simp; omega
  constructor
  · intro h
    obtain ⟨_, _, _, h5⟩ := lexR_bad h
    have hb := (h5 (by omega)).2
    rw [hb] at hj
    conv => lhs; unfold lexR
    rw [if_neg (by omega), hj]
    show (([] : List TokD), _, 5) = ([], _, 5)
    rw [Nat.add_comm]
  · intro h
    obtain ⟨_, _, hb, _⟩ := lexR_ok h
    rw [hb] at hj
    conv => lhs; unfold lexR
    rw [if_neg (by omega), hj]
    rfl

theorem segs_len {L : List UInt8} : ∀ (ts : List TokD), Segs L ts → ∀ t r, ts = t :: r → ts.length + t.at_ ≤ L.length + 1
  | [], h, _, _, _ => h.elim
  | [t], h, t', r, e => by
    injection e with e1 e2
    subst e1
    have ht : t = ⟨0, [], 0, L.length⟩ := h
    rw [ht]
    simp
    omega
  | t :: u :: r, h, t', r', e => by
    injection e with e1 e2
    subst e1
    obtain ⟨⟨t0, k, ho, _, hl, _, g1, _⟩, hS⟩ := h
    have hk := oneD_pos hl ho
    have ih := segs_len (u :: r) hS u r rfl
    rw [List.length_cons] at ih ⊢
    rw [List.length_cons]
    omega
theorem segs_le {L : List UInt8} {ts : List TokD} (h : Segs L ts) : ts.length ≤ L.length + 1 := by
  rcases ts with _ | ⟨t, r⟩
  · exact h.elim
  · have := segs_len _ h t r rfl
    omega
theorem segs_at {L : List UInt8} : ∀ (ts : List TokD), Segs L ts → ∀ t ∈ ts, t.at_ ≤ L.length
  | [], h, _, _ => h.elim
  | [t], h, t', ht => by
    have hh : t = ⟨0, [], 0, L.length⟩ := h
    have : t' = t := by simpa using ht
    rw [this, hh]
    exact Nat.le_refl _
  | t :: u :: r, h, t', ht => by
    rcases List.mem_cons.1 ht with rfl | ht
    · obtain ⟨⟨_, _, _, _, _, _, g1, g2, _⟩, _⟩ := h
      omega
    · exact segs_at (u :: r) h.2 t' ht
theorem join_list (a b : ByteArray) : ((a ++ ⟨#[32]⟩) ++ b).data.toList = a.data.toList ++ 32 :: b.data.toList := by
  rw [ByteArray.data_append, ByteArray.data_append]
  simp

set_option maxRecDepth 100000 in
set_option maxHeartbeats 8000000 in
theorem join_any (a b : ByteArray) (w : World) (hT : Tabs w) (hE : Errs w) :
    Calls Tryd.prog 6 #[.string a, .string b] w fun e w' => e = .returned (.bool true) ∧ Keeps [] w w' := by
  have hla : a.data.toList.length = a.size := Array.length_toList
  have hlb : b.data.toList.length = b.size := Array.length_toList
  have HAW := hid (fun w1 => awake6_any w1)
  have HT := hid hT
  have HE := hid hE
  by_cases hbig : 190 < a.size ∨ 190 < b.size
  · have hI : 190 < (a.size : Int) ∨ ((a.size : Int) ≤ 190 ∧ 190 < (b.size : Int)) := by omega
    clear hT hE hla hlb hbig
    rcases hI with hI | ⟨hI, hI2⟩
    all_goals
      go_enter Tryd.func6, Tryd.ntmps6
      go_wp2_with fail
      refine (HAW.out _ HT.out HE.out).mono ?_
      rintro e w2 ⟨rfl, hk⟩
      have K := hid hk
      clear hk
      go_wp2_with fail
      go_ret
      exact ⟨rfl, K.out⟩
  have hIa : (a.size : Int) ≤ 190 := by omega
  have hIb : (b.size : Int) ≤ 190 := by omega
  have HJ := hid (fun h0 => lexR_join (A := a.data.toList) (B := b.data.toList) (by omega) (by omega) h0)
  have HXA := hid (lxLex_any a w hT hE (by omega))
  have HXB := hid (fun w1 hT1 hE1 => lxLex_any b w1 hT1 hE1 (by omega))
  have HXZ := hid (fun w1 hT1 hE1 => lxLex_any ((a ++ ⟨#[32]⟩) ++ b) w1 hT1 hE1 (by rw [ByteArray.size_append, ByteArray.size_append]; show a.size + 1 + b.size ≤ _; omega))
  rw [join_list] at HXZ
  obtain ⟨⟨vs, k, g⟩, hRZ⟩ : ∃ x, lexR (a.data.toList ++ 32 :: b.data.toList) = x := ⟨_, rfl⟩
  have HA0 := hid (fun h0 => (lexR_ok (L := a.data.toList) h0).1)
  have HB0 := hid (fun h0 => (lexR_ok (L := b.data.toList) h0).1)
  have HA2 := hid (fun h0 => segs_le (lexR_ok (L := a.data.toList) h0).1)
  have HB3 := hid (fun h0 => segs_at _ (lexR_ok (L := b.data.toList) h0).1)
  have HB2 := hid (fun h0 => segs_le (lexR_ok (L := b.data.toList) h0).1)
  have HB1 := hid (fun h0 => (lexR_bad (L := b.data.toList) h0).2.2.1)
  obtain ⟨⟨ts, p, e⟩, hRA⟩ : ∃ x, lexR a.data.toList = x := ⟨_, rfl⟩
  obtain ⟨⟨us, p2, f⟩, hRB⟩ : ∃ x, lexR b.data.toList = x := ⟨_, rfl⟩
  rw [hRA, hRB, hRZ, hla] at HJ
  rw [hRA] at HA0
  rw [hRA, hla] at HA2
  rw [hRB, hlb] at HB2
  rw [hRB, hlb] at HB3
  rw [hRB, hlb] at HB1
  rw [hRB] at HB0
  unfold LexPost at HXA HXB HXZ
  rw [hRA] at HXA
  rw [hRB] at HXB
  rw [hRZ] at HXZ
  dsimp only at HXA HXB HXZ HJ HA0 HB0 HB1 HA2 HB2 HB3
  clear hT hE hla hlb hbig hRA hRB hRZ
  go_enter Tryd.func6, Tryd.ntmps6
  go_wp2_with fail
  refine HXA.out.mono ?_
  rintro e' w2 ⟨v, rfl, hlist, hk⟩
  have K2 := hid hk
  have LA2 := hid hlist
  obtain ⟨xa, xq, rfl⟩ := hlist.form
  clear hk hlist
  go_wp2_with fail
  refine (HXB.out _ (HT.out.k K2.out) (HE.out.k K2.out)).mono ?_
  rintro e' w3 ⟨v, rfl, hlist, hk⟩
  have K3 := hid (K2.out.trans hk (fun _ _ h => h))
  have LA3 := hid (LA2.out.k hk)
  have LB3 := hid hlist
  obtain ⟨ya, yq, rfl⟩ := hlist.form
  clear hk hlist
  go_wp2_with fail
  refine (HXZ.out _ (HT.out.k K3.out) (HE.out.k K3.out)).mono ?_
  rintro e' w4 ⟨v, rfl, hlist, hk⟩
  have K4 := hid (K3.out.trans hk (fun _ _ h => h))
  have LA := hid (LA3.out.k hk)
  have LB := hid (LB3.out.k hk)
  have LZ := hid hlist
  obtain ⟨za, zq, rfl⟩ := hlist.form
  clear hk hlist LA2 LA3 LB3 K2 K3
  by_cases he : e = 0
  · subst he
    by_cases hf : f = 0
    · subst hf
      obtain ⟨rfl, rfl, rfl⟩ : vs = _ ∧ k = 0 ∧ g = 0 := by
        have := (HJ.out rfl).2 rfl
        injection this with h1 h2
        injection h2 with h2 h3
        exact ⟨h1, h2, h3⟩
      have hna := segs_ne (HA0.out rfl)
      have hnb := segs_ne (HB0.out rfl)
      have hpa := List.length_pos_iff.2 hna
      have hpb := List.length_pos_iff.2 hnb
      obtain ⟨xb, xo, xc, hv, hc1, hc2, _, _⟩ := LA.out.addr hna
      simp at hv
      obtain ⟨rfl, rfl⟩ := hv
      obtain ⟨yb, yo, yc, hv, hc3, hc4, _, _⟩ := LB.out.addr hnb
      simp at hv
      obtain ⟨rfl, rfl⟩ := hv
      have hmx : ts.length ≤ 191 ∧ us.length ≤ 191 := by have := HA2.out rfl; have := HB2.out rfl; omega
      obtain ⟨vs, hvs⟩ : ∃ vs, (ts.dropLast ++ us.map fun t => { t with at_ := t.at_ + (a.size + 1) }) = vs := ⟨_, rfl⟩
      rw [hvs] at LZ ⊢
      have hvl : vs.length = ts.length + us.length - 1 := by rw [← hvs]; simp; omega
      have HV1 : Hid (∀ i t, i + 1 < ts.length → ts[i]? = some t → vs[i]? = some t) := fun i t hi ht => by
        rw [← hvs, List.getElem?_append_left (by simp; omega), List.getElem?_dropLast, if_pos (by omega)]
        exact ht
      have HV2 : Hid (∀ i t, us[i]? = some t → vs[ts.length - 1 + i]? = some { t with at_ := t.at_ + (a.size + 1) }) := fun i t ht => by
        rw [← hvs, List.getElem?_append_right (by simp), List.length_dropLast, Nat.add_sub_cancel_left, List.getElem?_map, ht]
        rfl
      obtain ⟨zb, zo, zc, hv, hc5, hc6, _, _⟩ := LZ.out.addr (by intro h; rw [h] at hvl; simp at hvl; omega)
      simp at hv
      obtain ⟨rfl, rfl⟩ := hv
      obtain ⟨n, hn⟩ : ∃ n, ts.length = n := ⟨_, rfl⟩
      obtain ⟨m, hm⟩ : ∃ m, us.length = m := ⟨_, rfl⟩
      have HN := hid hn
      have HM := hid hm
      rw [hn] at HV1 HV2
      rw [hn, hm] at hvl hmx
      rw [hn] at hpa
      rw [hm] at hpb
      rw [hvl] at hc5 ⊢
      rw [hn, hm]
      have f1 : (n : Int) + (m : Int) - 1 = ((n + m - 1 : Nat) : Int) := by omega
      have f2 : ((((n + m - 1 : Nat) : Int)) != (((n + m - 1 : Nat) : Int))) = false := by simp
      have f3 : (n : Int) ≤ 191 := by omega
      have f5 : (m : Int) ≤ 191 := by omega
      have f4 : (n : Int) - 1 = ((n - 1 : Nat) : Int) := by omega
      clear hna hnb hc1 hc2 hc3 hc4 hc6 hvs hvl hn hm HJ HXA HXB HXZ HA0 HB0 HB1 HA2 HB2
      have HB4 := hid (HB3.out rfl)
      clear HB3
      go_wp2_with fail
      go_loopw [14] (fun i wr => ∃ k : Nat, k < n ∧ i = .int .i64 k ∧ Hid (Keeps [] w4 wr)) (fun i _ => n - (intOf i).toNat)
      case atStart => exact ⟨0, hpa, rfl, Keeps.refl _ _⟩
      case round =>
        obtain ⟨k, hk, rfl, HW⟩ := hrel
        have i0 : (0 : Int) ≤ (k : Int) := Int.natCast_nonneg _
        have i1 : (k : Int) ≤ 191 := by omega
        by_cases hlt : k + 1 < n
        · have hlt' : (k : Int) + 1 < (n : Int) := by omega
          have hkI : (k : Int) < (n : Int) := by omega
          have hkI2 : (k : Int) < (n : Int) + (m : Int) - 1 := by omega
          have hkI3 : (k : Int) < ((n + m - 1 : Nat) : Int) := by omega
          obtain ⟨t, ht⟩ : ∃ t, ts[k]? = some t := ⟨_, List.getElem?_eq_getElem (by rw [HN.out]; omega)⟩
          obtain ⟨x0, x1, x2, x3⟩ := tok_get (LA.out.k HW.out) ht
          obtain ⟨z0, z1, z2, z3⟩ := tok_get (LZ.out.k HW.out) (HV1.out k t hlt ht)
          clear ht hpa hpb
          go_wp2_with fail
          refine Plan.wp_region_plan (fun wx => (wx.cell? ⟨xb, xo + k * 4, none⟩ = some (.int .i64 t.kind) ∧ wx.cell? ⟨xb, xo + k * 4 + 1, none⟩ = some (.string (str t.s)) ∧ wx.cell? ⟨xb, xo + k * 4 + 2, none⟩ = some (.int .i64 t.n) ∧ wx.cell? ⟨xb, xo + k * 4 + 3, none⟩ = some (.int .i64 t.at_)) ∧ wx.cell? ⟨zb, zo + k * 4, none⟩ = some (.int .i64 t.kind) ∧ wx.cell? ⟨zb, zo + k * 4 + 1, none⟩ = some (.string (str t.s)) ∧ wx.cell? ⟨zb, zo + k * 4 + 2, none⟩ = some (.int .i64 t.n) ∧ wx.cell? ⟨zb, zo + k * 4 + 3, none⟩ = some (.int .i64 t.at_)) 9 [(true, 0), (true, 1), (true, 2), (true, 3), (true, 4), (true, 5), (true, 6), (true, 7), (true, 8)] (by kernel_rfl) (by as_aux_lemma => kernel_rfl) (by kernel_rfl) (fun _ _ _ _ _ h => h) ?_ (fun hS => ?_)
          (· go_simp)
          simp only [Plan.pick, List.append_eq, List.cons_append, List.nil_append, Plan.g1, Plan.g2, Option.getD_some, List.drop_succ_cons, List.drop_zero]
          iterate 9 (first | refine Plan.tA ?_ | refine Plan.tY ?_ | refine Plan.pN ?_ | refine Plan.pU ?_ | fail)
          refine Plan.fin ?_
          go_wp2_with fail
          exact ⟨⟨k + 1, hlt, by go_num, HW.out.trans (G := []) (by exact Keeps.K) (fun _ _ h => h)⟩, by simp [intOf]; omega⟩
        · have hlt' : (n : Int) ≤ (k : Int) + 1 := by omega
          have HLA := hid (LA.out.k HW.out)
          have HLB := hid (LB.out.k HW.out)
          have HLZ := hid (LZ.out.k HW.out)
          have HKW := hid (K4.out.trans HW.out (fun _ _ h => h))
          clear HW LA LB LZ K4
          go_wp2_with fail
          go_loopw [15] (fun i wq => ∃ k : Nat, k ≤ m ∧ i = .int .i64 k ∧ Hid (Keeps [] wr wq)) (fun i _ => m - (intOf i).toNat)
          case atStart => exact ⟨0, Nat.zero_le _, rfl, Keeps.refl _ _⟩
          case round =>
            obtain ⟨k, hk, rfl, HW⟩ := hrel
            have i0 : (0 : Int) ≤ (k : Int) := Int.natCast_nonneg _
            have i1 : (k : Int) ≤ 191 := by omega
            by_cases hlt : k < m
            · have hlt' : (k : Int) < (m : Int) := by omega
              obtain ⟨j, hj⟩ : ∃ j, n - 1 + k = j := ⟨_, rfl⟩
              have j0 : (((n - 1 : Nat) : Int) + (k : Int)) = (j : Int) := by omega
              have j1 : (j : Int) < ((n + m - 1 : Nat) : Int) := by omega
              have j2 : (0 : Int) ≤ (j : Int) := Int.natCast_nonneg _
              obtain ⟨t, ht⟩ : ∃ t, us[k]? = some t := ⟨_, List.getElem?_eq_getElem (by rw [HM.out]; omega)⟩
              obtain ⟨x0, x1, x2, x3⟩ := tok_get (HLB.out.k HW.out) ht
              have hz := HV2.out k t ht
              rw [hj] at hz
              obtain ⟨z0, z1, z2, z3⟩ := tok_get (HLZ.out.k HW.out) hz
              have hta : t.at_ ≤ b.size := HB4.out t (List.mem_of_getElem? ht)
              have e1 : wrap64 (wrap64 ((t.at_ : Int) + ((a.size : Int) + 1) - (a.size : Int)) - 1) = (t.at_ : Int) := by unfold wrap64; omega
              have hyb : yb < wr.heap.size := World.block_lt_of_cell? _ _ x0
              clear hta
              clear ht hpa hpb hj hz
              go_wp2_with fail
              refine Plan.wp_region_plan (fun wx => (wx.cell? ⟨yb, yo + k * 4, none⟩ = some (.int .i64 t.kind) ∧ wx.cell? ⟨yb, yo + k * 4 + 1, none⟩ = some (.string (str t.s)) ∧ wx.cell? ⟨yb, yo + k * 4 + 2, none⟩ = some (.int .i64 t.n) ∧ wx.cell? ⟨yb, yo + k * 4 + 3, none⟩ = some (.int .i64 t.at_)) ∧ wx.cell? ⟨wr.heap.size, 0, none⟩ = some (.int .i64 t.kind) ∧ wx.cell? ⟨wr.heap.size, 1, none⟩ = some (.string (str t.s)) ∧ wx.cell? ⟨wr.heap.size, 2, none⟩ = some (.int .i64 t.n) ∧ wx.cell? ⟨wr.heap.size, 3, none⟩ = some (.int .i64 t.at_)) 6 [(true, 0), (true, 1), (true, 2), (true, 3), (true, 4), (true, 5)] (by kernel_rfl) (by as_aux_lemma => kernel_rfl) (by kernel_rfl) (fun _ _ _ _ _ h => h) ?_ (fun hS => ?_)
              (· go_simp)
              simp only [Plan.pick, List.append_eq, List.cons_append, List.nil_append, Plan.g1, Plan.g2, Option.getD_some, List.drop_succ_cons, List.drop_zero]
              iterate 6 (first | refine Plan.tA ?_ | refine Plan.tY ?_ | refine Plan.pN ?_ | refine Plan.pU ?_ | fail)
              refine Plan.fin ?_
              go_wp2_with fail
              exact ⟨⟨k + 1, hlt, by go_num, HW.out.trans (G := []) (by exact Keeps.K) (fun _ _ h => h)⟩, by simp [intOf]; omega⟩
            · have hlt' : (m : Int) ≤ (k : Int) := by omega
              have HKQ := hid (HKW.out.trans HW.out (fun _ _ h => h))
              go_wp2_with fail
              refine (HAW.out _ (HT.out.k HKQ.out) (HE.out.k HKQ.out)).mono ?_
              rintro e w5 ⟨rfl, hk⟩
              have K := hid (HKQ.out.trans hk (fun _ _ h => h))
              clear hk
              go_wp2_with fail
              go_ret
              exact ⟨rfl, K.out⟩
    · obtain ⟨rfl, hkk, rfl⟩ : vs = [] ∧ k = a.size + 1 + p2 ∧ g = 5 := by
        have := (HJ.out rfl).1 hf
        injection this with h1 h2
        injection h2 with h2 h3
        exact ⟨h1, h2, h3⟩
      have f1 : ((f : Int) != 0) = true := by simp; omega
      have hp2 := HB1.out hf
      have f2 : ((k : Int) == (a.size : Int) + 1 + (p2 : Int)) = true := beq_iff_eq.2 (by omega)
      have f3 : (p2 : Int) ≤ 190 := by omega
      clear hkk hf hp2 HJ HXA HXB HXZ HA0 HB0 HB1 HA2 HB2 HB3 LA LB LZ
      go_wp2_with fail
      refine (HAW.out _ (HT.out.k K4.out) (HE.out.k K4.out)).mono ?_
      rintro e w5 ⟨rfl, hk⟩
      have K := hid (K4.out.trans hk (fun _ _ h => h))
      clear hk
      go_wp2_with fail
      go_ret
      exact ⟨rfl, K.out⟩
  · have f1 : ((e : Int) != 0) = true := by simp; omega
    clear he
    go_wp2_with fail
    refine (HAW.out _ (HT.out.k K4.out) (HE.out.k K4.out)).mono ?_
    rintro e w5 ⟨rfl, hk⟩
    have K := hid (K4.out.trans hk (fun _ _ h => h))
    clear hk
    go_wp2_with fail
    go_ret
    exact ⟨rfl, K.out⟩

end Go.Proofs.YtdpbjdkkaekebaaDoor
