/- LexCuts: places rise. -/
import Derived.Test.YtdpbjdkkaekebaaDoorLxO
import Derived.Test.YtdpbjdkkaekebaaDoorPlan
namespace Go.Proofs.YtdpbjdkkaekebaaDoor
open Go Go.RowKit

theorem one_kind {l : List UInt8} {t : TokD} {k : Nat} (h : oneD l = some (t, k)) : t.kind = 1 ∨ t.kind = 2 ∨ t.kind = 3 ∨ t.kind = 4 := by
  unfold oneD at h
  split at h
  · split at h
    · injection h with h; injection h with h _; subst h; exact .inl rfl
    · cases h
  · split at h
    · split at h
      · injection h with h; injection h with h _; subst h; exact .inr (.inr (.inl rfl))
      · cases h
    · split at h
      · rcases hu : unqL l with _ | ⟨u, q⟩
        · rw [hu] at h; cases h
        · rw [hu] at h
          dsimp only at h
          split at h
          · injection h with h; injection h with h _; subst h; exact .inr (.inl rfl)
          · cases h
      · split at h
        · cases h
        · injection h with h; injection h with h _; subst h; exact .inr (.inr (.inr rfl))
theorem segs_kind {L : List UInt8} : ∀ (ts : List TokD), Segs L ts → ∀ (i : Nat) (t u : TokD), ts[i]? = some t → ts[i + 1]? = some u → t.kind = 1 ∨ t.kind = 2 ∨ t.kind = 3 ∨ t.kind = 4
  | [], h, _, _, _, _, _ => h.elim
  | [_], _, i, t, u, h1, h2 => by simp at h2
  | t :: u :: r, h, 0, t', u', h1, h2 => by
    obtain ⟨⟨t0, k, ho, ht, _⟩, _⟩ := h
    have : t' = t := by simpa using h1.symm
    rw [this, show t.kind = t0.kind by rw [ht]]
    exact one_kind ho
  | t :: u :: r, h, i + 1, t', u', h1, h2 => segs_kind (u :: r) h.2 i t' u' (by simpa using h1) (by simpa using h2)
/-- What is known of a text whose tokens are these. -/
theorem lexR_ok {L : List UInt8} (h : (lexR L).2.2 = 0) : Segs L (lexR L).1 ∧ (lexR L).2.1 = 0 ∧ lexL L 0 = .ok (lexR L).1 ∧ L.length ≤ 400 := by
  unfold lexR at h ⊢
  by_cases hb : 400 < L.length
  · rw [if_pos hb] at h; cases h
  · rw [if_neg hb] at h ⊢
    rcases hl : lexL L 0 with q | ts
    · rw [hl] at h; cases h
    · obtain ⟨t, r, h1, _, _, _, h2⟩ := lex_segs L L.length 0 ts (by omega) (Nat.zero_le _) (by simpa using hl)
      exact ⟨h2, rfl, rfl, by omega⟩
theorem lexR_bad {L : List UInt8} (h : (lexR L).2.2 ≠ 0) : (lexR L).1 = [] ∧ ((lexR L).2.2 = 5 ∨ (lexR L).2.2 = 7) ∧ (lexR L).2.1 ≤ L.length ∧ (L.length ≤ 400 → (lexR L).2.2 = 5 ∧ lexL L 0 = .error (lexR L).2.1) := by
  unfold lexR at h ⊢
  by_cases hb : 400 < L.length
  · rw [if_pos hb]; exact ⟨rfl, .inr rfl, by show 400 ≤ _; omega, fun h => absurd hb (by omega)⟩
  · rw [if_neg hb] at h ⊢
    rcases hl : lexL L 0 with q | ts
    · have := lex_err L L.length 0 q (by omega) (Nat.zero_le _) (by simpa using hl)
      exact ⟨rfl, .inl rfl, this.2, fun _ => ⟨rfl, rfl⟩⟩
    · rw [hl] at h; exact absurd rfl h
theorem segs_ne {L : List UInt8} {ts : List TokD} (h : Segs L ts) : ts ≠ [] := by intro e; rw [e] at h; exact h

set_option maxRecDepth 100000 in
set_option maxHeartbeats 8000000 in
theorem cuts_any (s : ByteArray) (w : World) (hT : Tabs w) (hE : Errs w) :
    Calls Tryd.prog 5 #[.string s] w fun e w' => e = .returned (.bool true) ∧ Keeps [] w w' := by
  have hl : s.data.toList.length = s.size := Array.length_toList
  have HAW := hid (fun w1 => awake6_any w1)
  have HT := hid hT
  have HE := hid hE
  have HL := hid hl
  by_cases hbig : 1000 < s.size
  · have hI : 1000 < (s.size : Int) := by omega
    clear hT hE hl hbig
    go_enter Tryd.func5, Tryd.ntmps5
    go_wp2_with fail
    refine (HAW.out _ HT.out HE.out).mono ?_
    rintro e w2 ⟨rfl, hk⟩
    have K := hid hk
    clear hk
    go_wp2_with fail
    go_ret
    exact ⟨rfl, K.out⟩
  have hI : (s.size : Int) ≤ 1000 := by omega
  have HX := hid (lxLex_any s w hT hE (by omega))
  obtain ⟨⟨ts, p, e⟩, hR⟩ : ∃ x, lexR s.data.toList = x := ⟨_, rfl⟩
  have HOK : Hid (e = 0 → Segs s.data.toList ts ∧ p = 0) := fun h => by
    have := lexR_ok (L := s.data.toList) (by rw [hR]; exact h)
    rw [hR] at this
    exact ⟨this.1, this.2.1⟩
  have HBAD : Hid (e ≠ 0 → ts = [] ∧ (e = 5 ∨ e = 7) ∧ p ≤ s.size) := fun h => by
    have := lexR_bad (L := s.data.toList) (by rw [hR]; exact h)
    rw [hR, hl] at this
    exact ⟨this.1, this.2.1, this.2.2.1⟩
  have HR := hid hR
  clear hT hE hl hbig hR
  go_enter Tryd.func5, Tryd.ntmps5
  go_wp2_with fail
  refine HX.out.mono ?_
  rintro e' w2 ⟨v, rfl, hlist, hk⟩
  rw [HR.out] at hlist ⊢
  have K2 := hid hk
  have HLI := hid hlist
  obtain ⟨a, q, rfl⟩ := hlist.form
  clear hk hlist
  dsimp only
  by_cases he : e = 0
  · obtain ⟨hS, hp⟩ := HOK.out he
    subst he; subst hp
    have HS := hid hS
    have hne := segs_ne hS
    have hpos := List.length_pos_iff.2 hne
    obtain ⟨b, off, c, hv, hc1, hc2, hc3, hc4⟩ := HLI.out.addr hne
    simp at hv
    obtain ⟨rfl, rfl⟩ := hv
    have hlast : ts[ts.length - 1]? = some ⟨0, [], 0, s.data.toList.length⟩ := by rw [← List.getLast?_eq_getElem?]; exact segs_last ts hS
    rw [HL.out] at hlast
    obtain ⟨l0, _, _, l3⟩ := tok_get HLI.out hlast
    have hcc : ts.length ≤ q := hc1
    have hmx : ts.length ≤ 9223372036854775807 := by have h1 : ts.length ≤ q := hc1; have h2 := hc2; unfold maxLen at h2; omega
    obtain ⟨n, hn⟩ : ∃ n, ts.length = n := ⟨_, rfl⟩
    have HN := hid hn
    rw [hn] at l0 l3 hcc hmx hpos ⊢
    have f1 : ((n : Int) == 0) = false := by simp; omega
    have f2 : (1 : Int) ≤ (n : Int) := by omega
    have f3 : (n : Int) - 1 = ((n - 1 : Nat) : Int) := by omega
    clear hS hne hc1 hc2 hc3 hc4 hlast hn
    go_wp2_with fail
    go_loopw [6] (fun i wr => ∃ k : Nat, k < n ∧ i = .int .i64 k ∧ Hid (Keeps [] w2 wr)) (fun i _ => n - (intOf i).toNat)
    case atStart => exact ⟨0, hpos, rfl, Keeps.refl _ _⟩
    case round =>
      obtain ⟨k, hk, rfl, HW⟩ := hrel
      have i0 : (0 : Int) ≤ (k : Int) := Int.natCast_nonneg _
      have i1 : (k : Int) + 1 ≤ 9223372036854775807 := by omega
      by_cases hlt : k + 1 < n
      · have hlt' : (k : Int) + 1 < (n : Int) := by omega
        have hkI : (k : Int) < (n : Int) := by omega
        have i2 : (0 : Int) ≤ (k : Int) + 1 := by omega
        have i4 : IntKind.i64.wrap ((k : Int) + 1) = (k : Int) + 1 := IntWalk.i64_in _ (by omega)
        have i3 : ((k : Int) + 1).toNat = k + 1 := by omega
        obtain ⟨t, ht⟩ : ∃ t, ts[k]? = some t := ⟨_, List.getElem?_eq_getElem (by rw [HN.out]; omega)⟩
        obtain ⟨u, hu⟩ : ∃ u, ts[k + 1]? = some u := ⟨_, List.getElem?_eq_getElem (by rw [HN.out]; omega)⟩
        obtain ⟨x0, x1, _, x3⟩ := tok_get (HLI.out.k HW.out) ht
        obtain ⟨_, _, _, y3⟩ := tok_get (HLI.out.k HW.out) hu
        obtain ⟨g1, g2, g3, g4⟩ := segs_cut ts HS.out k t u ht hu
        have g5 := segs_kind ts HS.out k t u ht hu
        rw [HL.out] at g2
        obtain ⟨m, hm⟩ : ∃ m, s.extract t.at_ u.at_ = m := ⟨_, rfl⟩
        have hml : m.data.toList = (s.data.toList.drop t.at_).take (u.at_ - t.at_) := by
          have := extract_str s t.at_ (u.at_ - t.at_)
          rw [show t.at_ + (u.at_ - t.at_) = u.at_ by omega, hm] at this
          rw [this]; rfl
        have hmz : m.size = u.at_ - t.at_ := by rw [← hm, ByteArray.size_extract]; omega
        obtain ⟨z, hz⟩ : ∃ z, str t.s = z := ⟨_, rfl⟩
        have hzz : z.size = t.s.length := by rw [← hz]; rfl
        rw [hz] at x1
        have e1 : (t.at_ : Int) ≤ (u.at_ : Int) := by omega
        have e2 : (u.at_ : Int) ≤ (s.size : Int) := by omega
        have e3 : (t.at_ : Int) < (u.at_ : Int) := by omega
        have e4 : (0 : Int) ≤ (t.at_ : Int) := Int.natCast_nonneg _
        have e5 : ((u.at_ : Int) ≤ (t.at_ : Int)) = False := eq_false (by omega)
        have HF : Hid ((t.kind = 3 ∨ t.kind = 4) → (z.size : Int) ≤ (m.size : Int) ∧ m.extract 0 z.size = z) := fun h => by
          obtain ⟨a1, a2⟩ := g4 h
          refine ⟨by omega, ?_⟩
          rw [hzz, (str_take m t.s.length).1, hml, List.take_take, Nat.min_eq_left a1, a2, hz]
        clear hml hmz hz hzz g1 g2 g3 g4 ht hu hpos
        have hcs : (t.kind = 3) ∨ (t.kind = 4) ∨ (((t.kind == 3) = false ∧ (t.kind == 4) = false) ∧ (t.kind == 0) = false) := by
          rcases g5 with h | h | h | h
          · exact .inr (.inr (by rw [h]; decide))
          · exact .inr (.inr (by rw [h]; decide))
          · exact .inl h
          · exact .inr (.inl h)
        clear g5
        obtain ⟨kk, hkk⟩ : ∃ kk, t.kind = kk := ⟨_, rfl⟩
        rw [hkk] at HF hcs x0
        clear hkk
        rcases hcs with rfl | rfl | ⟨⟨b3, b4⟩, b0⟩
        · obtain ⟨q1, q2⟩ := HF.out (.inl rfl)
          have q3 : ((m.size : Int) < (z.size : Int)) = False := eq_false (by omega)
          clear HF
          go_wp2_with fail
          refine Plan.wp_region_plan (fun wx => wx.cell? ⟨b, off + k * 4 + 3, none⟩ = some (.int .i64 t.at_) ∧ wx.cell? ⟨b, off + (k + 1) * 4 + 3, none⟩ = some (.int .i64 u.at_)) 14 [(true, 0), (true, 1), (true, 2), (true, 3), (true, 4), (true, 5), (true, 6), (true, 7), (true, 8), (true, 9), (true, 10), (true, 11), (true, 12), (true, 13)] (by kernel_rfl) (by as_aux_lemma => kernel_rfl) (by kernel_rfl) (fun _ _ _ _ _ h => h) ?_ (fun hS => ?_)
          (· go_simp)
          simp only [Plan.pick, List.append_eq, List.cons_append, List.nil_append, Plan.g1, Plan.g2, Option.getD_some, List.drop_succ_cons, List.drop_zero]
          iterate 14 (first | refine Plan.tA ?_ | refine Plan.tY ?_ | refine Plan.pN ?_ | refine Plan.pU ?_ | fail)
          refine Plan.fin ?_
          go_wp2_with fail
          refine Plan.wp_region_plan (fun wx => wx.cell? ⟨b, off + k * 4 + 3, none⟩ = some (.int .i64 t.at_) ∧ wx.cell? ⟨b, off + (k + 1) * 4 + 3, none⟩ = some (.int .i64 u.at_) ∧ wx.cell? ⟨b, off + k * 4, none⟩ = some (.int .i64 3)) 20 [(true, 0), (true, 1), (true, 2), (true, 3), (true, 4), (true, 5), (true, 6), (true, 7), (true, 8), (true, 9), (true, 10), (true, 11), (true, 12), (true, 13), (true, 14), (true, 15), (true, 16), (true, 17), (true, 18), (true, 19)] (by kernel_rfl) (by as_aux_lemma => kernel_rfl) (by kernel_rfl) (fun _ _ _ _ _ h => h) ?_ (fun hS => ?_)
          (· go_simp)
          simp only [Plan.pick, List.append_eq, List.cons_append, List.nil_append, Plan.g1, Plan.g2, Option.getD_some, List.drop_succ_cons, List.drop_zero]
          iterate 20 (first | refine Plan.tA ?_ | refine Plan.tY ?_ | refine Plan.pN ?_ | refine Plan.pU ?_ | fail)
          refine Plan.fin ?_
          go_wp2_with fail
          refine Plan.wp_region_plan (fun wx => wx.cell? ⟨b, off + k * 4, none⟩ = some (.int .i64 3) ∧ wx.cell? ⟨b, off + k * 4 + 1, none⟩ = some (.string z)) 41 [(true, 0), (true, 1), (true, 2), (true, 3), (true, 4), (true, 5), (true, 6), (true, 7), (true, 8), (true, 9), (true, 10), (true, 11), (true, 12), (true, 13), (true, 14), (true, 15), (true, 16), (true, 17), (true, 18), (true, 19), (true, 20), (true, 21), (true, 22), (true, 23), (true, 24), (true, 25), (true, 26), (true, 27), (true, 28), (true, 29), (true, 30), (true, 31), (true, 32), (true, 33), (true, 34), (true, 35), (true, 36), (true, 37), (true, 38), (true, 39), (true, 40)] (by kernel_rfl) (by as_aux_lemma => kernel_rfl) (by kernel_rfl) (fun _ _ _ _ _ h => h) ?_ (fun hS => ?_)
          (· go_simp)
          simp only [Plan.pick, List.append_eq, List.cons_append, List.nil_append, Plan.g1, Plan.g2, Option.getD_some, List.drop_succ_cons, List.drop_zero]
          iterate 41 (first | refine Plan.tA ?_ | refine Plan.tY ?_ | refine Plan.pN ?_ | refine Plan.pU ?_ | fail)
          refine Plan.fin ?_
          go_wp2_with fail
          go_roundw
          case rel => exact ⟨k + 1, hlt, by go_num, HW.out.trans (G := []) (by exact Keeps.K) (fun _ _ h => h)⟩
          case measure => simp [intOf]; omega
        · obtain ⟨q1, q2⟩ := HF.out (.inr rfl)
          have q3 : ((m.size : Int) < (z.size : Int)) = False := eq_false (by omega)
          clear HF
          go_wp2_with fail
          refine Plan.wp_region_plan (fun wx => wx.cell? ⟨b, off + k * 4 + 3, none⟩ = some (.int .i64 t.at_) ∧ wx.cell? ⟨b, off + (k + 1) * 4 + 3, none⟩ = some (.int .i64 u.at_)) 14 [(true, 0), (true, 1), (true, 2), (true, 3), (true, 4), (true, 5), (true, 6), (true, 7), (true, 8), (true, 9), (true, 10), (true, 11), (true, 12), (true, 13)] (by kernel_rfl) (by as_aux_lemma => kernel_rfl) (by kernel_rfl) (fun _ _ _ _ _ h => h) ?_ (fun hS => ?_)
          (· go_simp)
          simp only [Plan.pick, List.append_eq, List.cons_append, List.nil_append, Plan.g1, Plan.g2, Option.getD_some, List.drop_succ_cons, List.drop_zero]
          iterate 14 (first | refine Plan.tA ?_ | refine Plan.tY ?_ | refine Plan.pN ?_ | refine Plan.pU ?_ | fail)
          refine Plan.fin ?_
          go_wp2_with fail
          refine Plan.wp_region_plan (fun wx => wx.cell? ⟨b, off + k * 4 + 3, none⟩ = some (.int .i64 t.at_) ∧ wx.cell? ⟨b, off + (k + 1) * 4 + 3, none⟩ = some (.int .i64 u.at_) ∧ wx.cell? ⟨b, off + k * 4, none⟩ = some (.int .i64 4)) 20 [(true, 0), (true, 1), (true, 2), (true, 3), (true, 4), (true, 5), (true, 6), (true, 7), (true, 8), (true, 9), (true, 10), (true, 11), (true, 12), (true, 13), (true, 14), (true, 15), (true, 16), (true, 17), (true, 18), (true, 19)] (by kernel_rfl) (by as_aux_lemma => kernel_rfl) (by kernel_rfl) (fun _ _ _ _ _ h => h) ?_ (fun hS => ?_)
          (· go_simp)
          simp only [Plan.pick, List.append_eq, List.cons_append, List.nil_append, Plan.g1, Plan.g2, Option.getD_some, List.drop_succ_cons, List.drop_zero]
          iterate 20 (first | refine Plan.tA ?_ | refine Plan.tY ?_ | refine Plan.pN ?_ | refine Plan.pU ?_ | fail)
          refine Plan.fin ?_
          go_wp2_with fail
          refine Plan.wp_region_plan (fun wx => wx.cell? ⟨b, off + k * 4, none⟩ = some (.int .i64 4) ∧ wx.cell? ⟨b, off + k * 4 + 1, none⟩ = some (.string z)) 41 [(true, 0), (true, 1), (true, 2), (true, 3), (true, 4), (true, 5), (true, 6), (true, 7), (true, 8), (true, 9), (true, 10), (true, 11), (true, 12), (true, 13), (true, 14), (true, 15), (true, 16), (true, 17), (true, 18), (true, 19), (true, 20), (true, 21), (true, 22), (true, 23), (true, 24), (true, 25), (true, 26), (true, 27), (true, 28), (true, 29), (true, 30), (true, 31), (true, 32), (true, 33), (true, 34), (true, 35), (true, 36), (true, 37), (true, 38), (true, 39), (true, 40)] (by kernel_rfl) (by as_aux_lemma => kernel_rfl) (by kernel_rfl) (fun _ _ _ _ _ h => h) ?_ (fun hS => ?_)
          (· go_simp)
          simp only [Plan.pick, List.append_eq, List.cons_append, List.nil_append, Plan.g1, Plan.g2, Option.getD_some, List.drop_succ_cons, List.drop_zero]
          iterate 41 (first | refine Plan.tA ?_ | refine Plan.tY ?_ | refine Plan.pN ?_ | refine Plan.pU ?_ | fail)
          refine Plan.fin ?_
          go_wp2_with fail
          go_roundw
          case rel => exact ⟨k + 1, hlt, by go_num, HW.out.trans (G := []) (by exact Keeps.K) (fun _ _ h => h)⟩
          case measure => simp [intOf]; omega
        · clear HF
          go_wp2_with fail
          refine Plan.wp_region_plan (fun wx => wx.cell? ⟨b, off + k * 4 + 3, none⟩ = some (.int .i64 t.at_) ∧ wx.cell? ⟨b, off + (k + 1) * 4 + 3, none⟩ = some (.int .i64 u.at_)) 14 [(true, 0), (true, 1), (true, 2), (true, 3), (true, 4), (true, 5), (true, 6), (true, 7), (true, 8), (true, 9), (true, 10), (true, 11), (true, 12), (true, 13)] (by kernel_rfl) (by as_aux_lemma => kernel_rfl) (by kernel_rfl) (fun _ _ _ _ _ h => h) ?_ (fun hS => ?_)
          (· go_simp)
          simp only [Plan.pick, List.append_eq, List.cons_append, List.nil_append, Plan.g1, Plan.g2, Option.getD_some, List.drop_succ_cons, List.drop_zero]
          iterate 14 (first | refine Plan.tA ?_ | refine Plan.tY ?_ | refine Plan.pN ?_ | refine Plan.pU ?_ | fail)
          refine Plan.fin ?_
          go_wp2_with fail
          refine Plan.wp_region_plan (fun wx => wx.cell? ⟨b, off + k * 4 + 3, none⟩ = some (.int .i64 t.at_) ∧ wx.cell? ⟨b, off + (k + 1) * 4 + 3, none⟩ = some (.int .i64 u.at_) ∧ wx.cell? ⟨b, off + k * 4, none⟩ = some (.int .i64 kk)) 20 [(true, 0), (true, 1), (true, 2), (true, 3), (true, 4), (true, 5), (true, 6), (true, 7), (true, 8), (true, 9), (true, 10), (true, 11), (true, 12), (true, 13), (true, 14), (true, 15), (true, 16), (true, 17), (true, 18), (true, 19)] (by kernel_rfl) (by as_aux_lemma => kernel_rfl) (by kernel_rfl) (fun _ _ _ _ _ h => h) ?_ (fun hS => ?_)
          (· go_simp)
          simp only [Plan.pick, List.append_eq, List.cons_append, List.nil_append, Plan.g1, Plan.g2, Option.getD_some, List.drop_succ_cons, List.drop_zero]
          iterate 20 (first | refine Plan.tA ?_ | refine Plan.tY ?_ | refine Plan.pN ?_ | refine Plan.pU ?_ | fail)
          refine Plan.fin ?_
          go_wp2_with fail
          refine Plan.wp_region_plan (fun wx => wx.cell? ⟨b, off + k * 4, none⟩ = some (.int .i64 kk) ∧ wx.cell? ⟨b, off + k * 4 + 1, none⟩ = some (.string z)) 41 [(true, 0), (true, 1), (true, 2), (true, 3), (true, 4), (true, 5), (true, 6), (true, 7), (true, 8), (true, 9), (true, 10), (true, 11), (true, 12), (true, 13), (true, 14), (true, 15), (true, 16), (true, 17), (true, 18), (true, 19), (true, 20), (true, 21), (true, 22), (true, 23), (true, 24), (true, 25), (true, 26), (true, 27), (true, 28), (true, 29), (true, 30), (true, 31), (true, 32), (true, 33), (true, 34), (true, 35), (true, 36), (true, 37), (true, 38), (true, 39), (true, 40)] (by kernel_rfl) (by as_aux_lemma => kernel_rfl) (by kernel_rfl) (fun _ _ _ _ _ h => h) ?_ (fun hS => ?_)
          (· go_simp)
          simp only [Plan.pick, List.append_eq, List.cons_append, List.nil_append, Plan.g1, Plan.g2, Option.getD_some, List.drop_succ_cons, List.drop_zero]
          iterate 41 (first | refine Plan.tA ?_ | refine Plan.tY ?_ | refine Plan.pN ?_ | refine Plan.pU ?_ | fail)
          refine Plan.fin ?_
          go_wp2_with fail
          go_roundw
          case rel => exact ⟨k + 1, hlt, by go_num, HW.out.trans (G := []) (by exact Keeps.K) (fun _ _ h => h)⟩
          case measure => simp [intOf]; omega
      · obtain rfl : n = k + 1 := by omega
        go_wp2_with fail
        have K3 := hid (K2.out.trans HW.out (fun _ _ h => h))
        refine (HAW.out _ (HT.out.k K3.out) (HE.out.k K3.out)).mono ?_
        rintro e w3 ⟨rfl, hk⟩
        have K := hid (K3.out.trans hk (fun _ _ h => h))
        clear hk
        go_wp2_with fail
        go_ret
        exact ⟨rfl, K.out⟩
  · obtain ⟨h1, h2, h3⟩ := HBAD.out he
    subst h1
    have f1 : ((e : Int) != 0) = true := by simp; omega
    have f2 : (0 : Int) ≤ (p : Int) := Int.natCast_nonneg _
    have f3 : (p : Int) ≤ (s.size : Int) := by omega
    clear he h2 h3
    go_wp2_with fail
    refine (HAW.out _ (HT.out.k K2.out) (HE.out.k K2.out)).mono ?_
    rintro e w3 ⟨rfl, hk⟩
    have K := hid (K2.out.trans hk (fun _ _ h => h))
    clear hk
    go_wp2_with fail
    go_ret
    exact ⟨rfl, K.out⟩

end Go.Proofs.YtdpbjdkkaekebaaDoor
