/- Joined of MatH, MatProof. -/
import Derived.Test.YtpppoajnbhipeaaMatM
import Derived.Test.YtpppoajnbhipeaaOpenL
import Derived.Test.YtpppoajnbhipeaaLaw

/- CoreMatches, walked. -/
namespace Go.Proofs.Ytpppoajnbhipeaa
open Go Go.RowKit

set_option maxRecDepth 100000 in
set_option maxHeartbeats 12800000 in
theorem matches_walk (keep asks : Int) (ts bs : List Int) (kk N : Nat) (a0 a1 : Option Addr) (c0 c1 : Nat) (P : Nat → Prop) (w : World) (wk : (Lit.int .i64 keep).wf = true) (wa : (Lit.int .i64 asks).wf = true)
    (hk : placeOf keep ((min ts.length 12 : Nat) + 1) = (kk : Int)) (hN : placeOf asks 12 = (N : Int)) (hl : ListAt intL w P (.slice a0 ts.length c0) ts) (hw : ∀ t ∈ ts, IntW t) (hl2 : ListAt intL w P (.slice a1 bs.length c1) bs) (hw2 : ∀ t ∈ bs, IntW t) :
    Calls Try.prog 9 #[.slice a0 ts.length c0, .int .i64 keep, .slice a1 bs.length c1, .int .i64 asks] w fun e w' => e = .returned (.bool true) ∧ Below w.heap.size w w' := by
  obtain ⟨it, hi0, hz0, hz1, hz2⟩ := info_parts Try.infoEnt
  have hb1 := placeOf_bd keep ((min ts.length 12 : Nat) + 1) (by omega)
  have hb2 := placeOf_bd asks 12 (by omega)
  have hkk : kk ≤ min ts.length 12 := by omega
  have N11 : N ≤ 11 := by omega
  have HK := hid hk
  have HN := hid hN
  have HLA := hid hl
  have HD := hid hw
  have HLB := hid hl2
  have HD2 := hid hw2
  clear hk hN hl hw hl2 hw2 hb1 hb2
  go_enter Try.func9, Try.ntmps9
  go_wp2_with fail
  rename_i Q1 K1 hK1
  have HM1 : ∀ (a : Option Addr) (q : Nat) (wr : World), Keeps [] w wr → Hid (ListAt entL wr (fun b => w.heap.size ≤ b) (.slice a (min ts.length 12) q) (logL ts)) → ∀ (u25 u26 u27 u28 u29 u30 u31 u32 u33 u34 u35 u36 u37 u38 u39 u40 u41 u42 u43 u44 u45 u46 u47 u48 : Value), K1 ⟨#[.slice a0 ts.length c0, .int .i64 keep, .slice a1 bs.length c1, .int .i64 asks, undef, undef, undef, undef, .bool false, .slice a (min ts.length 12) q, .int .i64 (logT ts (min ts.length 12)), .int .i64 ((min ts.length 12 : Nat) : Int), undef, undef, undef, undef, undef, undef, undef, undef, undef, undef, undef, undef, undef, u25, u26, u27, u28, u29, u30, u31, u32, u33, u34, u35, u36, u37, u38, u39, u40, u41, u42, u43, u44, u45, u46, u47, u48, undef, undef, undef, undef, undef, undef, undef, undef, undef, undef, undef, undef, undef, undef, undef, undef, undef, undef, undef, undef, undef, undef, undef, undef, undef, undef, undef, undef, undef, undef, undef, undef, undef, undef, undef, undef, undef, undef, undef, undef, undef, undef, undef, undef, undef, undef, undef, undef, undef, undef, undef, undef, undef, undef, undef, undef, undef, undef, undef, undef, undef, undef, undef, undef, undef, undef, undef, undef, undef, undef, undef, undef, undef, undef, undef, undef, undef, undef, undef, undef, undef, undef, undef, undef, undef, undef, undef, undef, undef, undef, undef, undef, undef, undef, undef, undef, undef, undef, undef, undef, undef, undef, undef, undef, undef, undef, undef, undef, undef, undef, undef, undef, undef, undef, undef, undef, undef, undef, undef, undef, undef, undef, undef, undef, undef, undef, undef, undef, undef, undef, undef, undef, undef, undef, undef, undef, undef, undef, undef, undef, undef, undef, undef, undef, undef, undef, undef, undef, undef, undef, undef, undef, undef, undef, undef, undef, undef, undef, undef], []⟩ wr := by
    intro a q w1 k1 HL1 u25 u26 u27 u28 u29 u30 u31 u32 u33 u34 u35 u36 u37 u38 u39 u40 u41 u42 u43 u44 u45 u46 u47 u48
    refine hK1 _ _ ?_
    have K1 := hid k1
    clear hK1 k1
    have hkq : kk ≤ q := by
      by_cases hz : logL ts = []
      · have := logL_len ts
        rw [hz] at this
        simp at this
        omega
      · obtain ⟨g, off, cg, h1, h2, _⟩ := HL1.out.addr hz
        simp at h1
        have := logL_len ts
        omega
    have HP1 : Hid (ListAt entL w1 (fun b => w.heap.size ≤ b) (.slice a kk q) ((logL ts).take kk)) := by
      show ListAt _ _ _ _ _
      have hlen := logL_len ts
      by_cases hz : kk = 0
      · subst hz
        exact ListAt.nil _ _ _ _
      · obtain ⟨g, off, cg, h1, h2, h3, _⟩ := HL1.out.addr (fun h => by rw [h] at hlen; simp at hlen; omega)
        simp at h1
        obtain ⟨h4, h5, h6⟩ := h1
        have hl1 := HL1.out
        subst h4
        have := hl1.piece 0 kk q (some ⟨g, off, none⟩) (by omega) (by omega) (by omega) (fun _ => by simp)
        rw [List.drop_zero] at this
        exact this
    go_wp2_with fail
    refine (place_is (kk : Int) keep ((min ts.length 12 : Nat) + 1) _ (by omega) (by omega) wk HK.out).mono ?_
    rintro e w2 ⟨rfl, hwa⟩
    rw [hwa]
    clear hwa w2
    go_wp2_with fail
    rename_i K3 hK3 K2 hK2
    have HM3 : ∀ (a3 : Option Addr) (q3 : Nat) (w3 : World), Keeps [] w1 w3 → Hid (FreshEnts w1 w3 (.slice a3 kk q3) ((logL ts).take kk)) → ∀ (u25 u26 u27 u28 u29 u30 u31 u32 u33 u34 u35 u36 u37 u38 u39 u40 u41 u42 u43 u44 u45 u46 u47 u48 u49 u50 u51 u52 u53 u54 u55 u56 u57 : Value), K3 ⟨#[.slice a0 ts.length c0, .int .i64 keep, .slice a1 bs.length c1, .int .i64 asks, undef, undef, undef, undef, .bool false, .slice a (min ts.length 12) q, .int .i64 (logT ts (min ts.length 12)), .int .i64 ((min ts.length 12 : Nat) : Int), .int .i64 (kk : Int), .slice a3 kk q3, undef, undef, undef, undef, undef, undef, undef, undef, undef, undef, undef, u25, u26, u27, u28, u29, u30, u31, u32, u33, u34, u35, u36, u37, u38, u39, u40, u41, u42, u43, u44, u45, u46, u47, u48, u49, u50, u51, u52, u53, u54, u55, u56, u57, undef, undef, undef, undef, undef, undef, undef, undef, undef, undef, undef, undef, undef, undef, undef, undef, undef, undef, undef, undef, undef, undef, undef, undef, undef, undef, undef, undef, undef, undef, undef, undef, undef, undef, undef, undef, undef, undef, undef, undef, undef, undef, undef, undef, undef, undef, undef, undef, undef, undef, undef, undef, undef, undef, undef, undef, undef, undef, undef, undef, undef, undef, undef, undef, undef, undef, undef, undef, undef, undef, undef, undef, undef, undef, undef, undef, undef, undef, undef, undef, undef, undef, undef, undef, undef, undef, undef, undef, undef, undef, undef, undef, undef, undef, undef, undef, undef, undef, undef, undef, undef, undef, undef, undef, undef, undef, undef, undef, undef, undef, undef, undef, undef, undef, undef, undef, undef, undef, undef, undef, undef, undef, undef, undef, undef, undef, undef, undef, undef, undef, undef, undef, undef, undef, undef, undef, undef, undef, undef, undef, undef, undef, undef, undef, undef, undef, undef, undef, undef, undef], []⟩ w3 := by
      intro a3 q3 w3 k3 HM3 u25 u26 u27 u28 u29 u30 u31 u32 u33 u34 u35 u36 u37 u38 u39 u40 u41 u42 u43 u44 u45 u46 u47 u48 u49 u50 u51 u52 u53 u54 u55 u56 u57
      refine hK3 _ _ ?_
      refine wp_cut (fun K4 hK4 M4 hM4 => ?_)
      have HM4 : ∀ (t0 : Int), t0 = 3 ∨ t0 = 5 → ∀ (u58 u59 u60 u61 u62 u63 u64 u65 u66 u67 u68 : Value), K4 ⟨#[.slice a0 ts.length c0, .int .i64 keep, .slice a1 bs.length c1, .int .i64 asks, undef, undef, undef, undef, .bool false, .slice a (min ts.length 12) q, .int .i64 t0, .int .i64 ((min ts.length 12 : Nat) : Int), .int .i64 (kk : Int), .slice a3 kk q3, undef, undef, undef, undef, undef, undef, undef, undef, undef, undef, undef, u25, u26, u27, u28, u29, u30, u31, u32, u33, u34, u35, u36, u37, u38, u39, u40, u41, u42, u43, u44, u45, u46, u47, u48, u49, u50, u51, u52, u53, u54, u55, u56, u57, u58, u59, u60, u61, u62, u63, u64, u65, u66, u67, u68, undef, undef, undef, undef, undef, undef, undef, undef, undef, undef, undef, undef, undef, undef, undef, undef, undef, undef, undef, undef, undef, undef, undef, undef, undef, undef, undef, undef, undef, undef, undef, undef, undef, undef, undef, undef, undef, undef, undef, undef, undef, undef, undef, undef, undef, undef, undef, undef, undef, undef, undef, undef, undef, undef, undef, undef, undef, undef, undef, undef, undef, undef, undef, undef, undef, undef, undef, undef, undef, undef, undef, undef, undef, undef, undef, undef, undef, undef, undef, undef, undef, undef, undef, undef, undef, undef, undef, undef, undef, undef, undef, undef, undef, undef, undef, undef, undef, undef, undef, undef, undef, undef, undef, undef, undef, undef, undef, undef, undef, undef, undef, undef, undef, undef, undef, undef, undef, undef, undef, undef, undef, undef, undef, undef, undef, undef, undef, undef, undef, undef, undef, undef, undef, undef, undef, undef, undef, undef, undef], []⟩ w3 := by
        intro t0 ht0 u58 u59 u60 u61 u62 u63 u64 u65 u66 u67 u68
        have HT0 := hid ht0
        refine hK4 _ _ ?_
        clear hK4 hM4 hK3 hK2
        go_wp2_with fail
        rename_i Q5 K5 hK5
        have HM5 : ∀ (a5 : Option Addr) (q5 : Nat) (w5 : World), Hid (FreshEnts w1 w5 (.slice a5 (kk + min bs.length 12) q5) (folX ((logL ts).take kk) t0 bs (min bs.length 12)) ∧ Keeps [] w1 w5) → ∀ (u69 u70 u71 u72 u73 u74 u75 u76 u77 u78 u79 u80 u81 u82 u83 u84 u85 u86 u87 u88 u89 u90 u91 u92 : Value), K5 ⟨#[.slice a0 ts.length c0, .int .i64 keep, .slice a1 bs.length c1, .int .i64 asks, undef, undef, undef, undef, .bool false, .slice a (min ts.length 12) q, .int .i64 (folT t0 bs (min bs.length 12)), .int .i64 ((min ts.length 12 : Nat) : Int), .int .i64 (kk : Int), .slice a5 (kk + min bs.length 12) q5, .int .i64 ((min bs.length 12 : Nat) : Int), undef, undef, undef, undef, undef, undef, undef, undef, undef, undef, u25, u26, u27, u28, u29, u30, u31, u32, u33, u34, u35, u36, u37, u38, u39, u40, u41, u42, u43, u44, u45, u46, u47, u48, u49, u50, u51, u52, u53, u54, u55, u56, u57, u58, u59, u60, u61, u62, u63, u64, u65, u66, u67, u68, u69, u70, u71, u72, u73, u74, u75, u76, u77, u78, u79, u80, u81, u82, u83, u84, u85, u86, u87, u88, u89, u90, u91, u92, undef, undef, undef, undef, undef, undef, undef, undef, undef, undef, undef, undef, undef, undef, undef, undef, undef, undef, undef, undef, undef, undef, undef, undef, undef, undef, undef, undef, undef, undef, undef, undef, undef, undef, undef, undef, undef, undef, undef, undef, undef, undef, undef, undef, undef, undef, undef, undef, undef, undef, undef, undef, undef, undef, undef, undef, undef, undef, undef, undef, undef, undef, undef, undef, undef, undef, undef, undef, undef, undef, undef, undef, undef, undef, undef, undef, undef, undef, undef, undef, undef, undef, undef, undef, undef, undef, undef, undef, undef, undef, undef, undef, undef, undef, undef, undef, undef, undef, undef, undef, undef, undef, undef, undef, undef, undef, undef, undef, undef, undef, undef, undef, undef, undef, undef], []⟩ w5 := by
          intro a5 q5 w5 HW5 u69 u70 u71 u72 u73 u74 u75 u76 u77 u78 u79 u80 u81 u82 u83 u84 u85 u86 u87 u88 u89 u90 u91 u92
          refine hK5 _ _ ?_
          clear hK5
          go_wp2_with fail
          refine (leads_is w5 (logL ts) (min ts.length 12) (logL_len ts) a q _ (HL1.out.k HW5.out.2) (fun e he => by have := (logL_mem he).2; omega) (by omega) (fun e he => by have := (logL_mem he).1; omega)).mono ?_
          rintro e w6 ⟨n, x, lv, sv, rfl, hx, hled, k6⟩
          have HX6 : Hid (CoreAt w6 w5.heap.size n x lv sv ∧ Led 3 5 (logL ts) x ∧ Keeps [] w5 w6) := ⟨hx, hled, k6⟩
          clear hx hled k6
          go_wp2_with fail
          refine (cfL_is 3 0 _ (by decide) (by decide)).mono ?_
          rintro e w7 ⟨rfl, k7⟩
          have K7 : Hid (Keeps [] w6 w7) := k7
          clear k7
          go_wp2_with fail
          have HF7 : Hid (ListAt entL w7 (fun _ => True) (.slice a5 (kk + min bs.length 12) q5) (folX ((logL ts).take kk) t0 bs (min bs.length 12))) := ((OwnAt.list HW5.out.1 (P' := fun _ => True) (fun _ _ _ => trivial) (fun _ _ => trivial)).k HX6.out.2.2).k K7.out
          refine (cNewB_is _ (kk + min bs.length 12) (folX_is hkk t0 _) a5 q5 _ w7 HF7.out (fun e he => by have := (folX_mem HT0.out he).2; omega) (by omega) (fun e he => by have := (folX_mem HT0.out he).1; omega)).mono ?_
          rintro e w8 ⟨m, mv, tv, rfl, hy, k8⟩
          have HA8 : Hid (∃ x' y', AskAt w w8 ts bs kk t0 0 n m x' y' lv sv mv tv) := ask_first (Nat.le_trans K1.out.size HW5.out.2.size) (HX6.out.1.k K7.out) HX6.out.2.1 (((K1.out.trans HW5.out.2 (fun _ _ h => h)).trans HX6.out.2.2 (fun _ _ h => h)).trans K7.out (fun _ _ h => h)) k8 hy
          clear hy k8 HF7
          go_wp2_with fail
          go_loopw [18] (fun i wr => ∃ k : Nat, k ≤ N ∧ i = .int .i64 k ∧ Hid (∃ x y lv sv, AskAt w wr ts bs kk t0 k n m x y lv sv mv tv)) (fun i _ => N - (intOf i).toNat)
          case atStart =>
            obtain ⟨x', y', h⟩ := HA8.out
            exact ⟨0, Nat.zero_le _, rfl, x', y', lv, sv, h⟩
          case round =>
            obtain ⟨k, hk, rfl, HW⟩ := hrel
            have i0 : (0 : Int) ≤ (k : Int) := Int.natCast_nonneg _
            by_cases hlt : k < N
            · have i1 : (k : Int) < (N : Int) := by omega
              have i2 : (k : Int) < 256 := by omega
              go_wp2_with fail
              refine (place_is (N : Int) asks 12 _ (by omega) (by omega) wa HN.out).mono ?_
              rintro e w9 ⟨rfl, hwa⟩
              rw [hwa]
              clear hwa w9
              go_wp2_with fail
              obtain ⟨x1, y1, lv1, sv1, hA⟩ := HW.out
              refine (ask_step hA (by omega)).mono ?_
              rintro e w9 ⟨ri, ra, rl, rq, rfl, x2, y2, lv2, sv2, hA2⟩
              have HA2 : Hid (∃ x y lv sv, AskAt w w9 ts bs kk t0 (k + 1) n m x y lv sv mv tv) := ⟨x2, y2, lv2, sv2, hA2⟩
              clear hA hA2
              go_wp2_with fail
              go_roundw
              case rel => exact ⟨k + 1, by omega, by go_num, HA2.out⟩
              case measure => simp [intOf]; omega
            · have hkN : k = N := by omega
              have HM0 : Hid (∃ x y lv sv, MatAt w wr (leadL ts N) 0 n m x y lv sv mv tv ∧ x.patience = 0) := by
                obtain ⟨x1, y1, lv1, sv1, hA⟩ := HW.out
                rw [hkN] at hA
                exact ⟨x1, y1, lv1, sv1, ask_last hA HT0.out hkk⟩
              have i1 : (N : Int) ≤ (k : Int) := by omega
              clear hkN
              go_wp2_with fail
              refine (place_is (N : Int) asks 12 _ (by omega) (by omega) wa HN.out).mono ?_
              rintro e w9 ⟨rfl, hwa⟩
              rw [hwa]
              clear hwa w9
              go_wp2_with fail
              have HL : Hid (MatL (leadL ts N)) := leadL_mat ts N11
              obtain ⟨L, hLd⟩ : ∃ L, leadL ts N = L := ⟨_, rfl⟩
              rw [hLd] at HM0 HL
              clear hLd
              clear HW
              go_loopw [19] (fun i wr => ∃ k : Nat, k ≤ 60 ∧ i = .int .i64 k ∧ Hid (∃ x y lv sv mv tv, MatAt w wr L (k / 2) n m x y lv sv mv tv ∧ x.patience = ((k % 2 : Nat) : Int))) (fun i _ => 60 - (intOf i).toNat)
              case atStart =>
                obtain ⟨x1, y1, lv1, sv1, h1, h2⟩ := HM0.out
                exact ⟨0, by omega, rfl, x1, y1, lv1, sv1, mv, tv, h1, h2⟩
              case round =>
                obtain ⟨j, hj, rfl, HW⟩ := hrel
                have j0 : (0 : Int) ≤ (j : Int) := Int.natCast_nonneg _
                by_cases hlt : j < 60
                · have j1 : (j : Int) < 60 := by omega
                  by_cases hpar : j % 2 = 0
                  · go_wp2_with fail
                    obtain ⟨x1, y1, lv1, sv1, mv1, tv1, hM, hp⟩ := HW.out
                    rw [hpar] at hp
                    refine (mat_still hM hp).mono ?_
                    rintro e w10 ⟨la, lq, rfl, x2, y2, hp2, hM2⟩
                    have HM2 : Hid (∃ x y lv sv mv tv, MatAt w w10 L ((j + 1) / 2) n m x y lv sv mv tv ∧ x.patience = (((j + 1) % 2 : Nat) : Int)) := by
                      refine ⟨x2, y2, lv1, sv1, mv1, tv1, ?_, ?_⟩
                      · rw [show (j + 1) / 2 = j / 2 by omega]
                        exact hM2
                      · rw [hp2, show (j + 1) % 2 = 1 by omega]
                        rfl
                    clear hM hp hM2
                    go_wp2_with fail
                    go_loopw [21] (fun i wr => i = .int .i64 0 ∧ wr = w10) (fun _ _ => 0)
                    case atStart => exact ⟨rfl, rfl⟩
                    case round =>
                      obtain ⟨rfl, rfl⟩ := hrel
                      go_wp2_with fail
                      go_roundw
                      case rel => exact ⟨j + 1, by omega, by go_num, HM2.out⟩
                      case measure => simp [intOf]; omega
                  · go_wp2_with fail
                    obtain ⟨x1, y1, lv1, sv1, mv1, tv1, hM, hp⟩ := HW.out
                    rw [show j % 2 = 1 by omega] at hp
                    refine (mat_sends hM hp).mono ?_
                    rintro e w10 ⟨g, lq, x2, y2, a2, ea, ec, da, dc, rfl, hq1, hq2, hp2, hM2, hG, hn, hmc, hel⟩
                    have HS10 : Hid (MsgSt w w10 L (j / 2) n m g 0) := ⟨x2, y2, lv1, sv1, mv1, tv1, a2, ea, ec, da, dc, hM2, hp2, hG, hn, by have := next_bd HL.out hM2.mat.mx hn; omega, hmc, hel⟩
                    clear hM hp hM2 hp2 hG hn hmc hel
                    go_wp2_with fail
                    go_loopw [21] (fun i wr => (i = .int .i64 0 ∧ Hid (MsgSt w wr L (j / 2) n m g 0)) ∨ (i = .int .i64 1 ∧ Hid (MsgDone w wr L (j / 2 + 1) n m g)) ∨ (i = .int .i64 2 ∧ Hid (MsgDone w wr L (j / 2 + 1) n m g))) (fun i _ => 2 - (intOf i).toNat)
                    case atStart => exact .inl ⟨rfl, HS10⟩
                    case round =>
                      rcases hrel with ⟨rfl, HS0⟩ | ⟨rfl, HS⟩ | ⟨rfl, HS⟩
                      · go_wp2_with fail
                        go_loopw [22] (fun i wi => ∃ c : Nat, c ≤ 30 ∧ i = .int .i64 c ∧ Hid (MsgSt w wi L (j / 2) n m g c)) (fun i _ => 30 - (intOf i).toNat)
                        case atStart => exact ⟨0, by omega, rfl, HS0.out⟩
                        case round =>
                          obtain ⟨c, hc, rfl, HC⟩ := hrel
                          have c0 : (0 : Int) ≤ (c : Int) := Int.natCast_nonneg _
                          obtain ⟨x3, y3, lv3, sv3, mv3, tv3, a3, ea3, ec3, da3, dc3, hM, hp, hG, hn, hca, hmc, hel⟩ := HC.out
                          have c1 : (c : Int) < 30 := by omega
                          have HM : Hid (MatAt w wr L (j / 2) n m x3 y3 lv3 sv3 mv3 tv3) := hM
                          have HG : Hid (RowG w wr g x3 y3) := hG
                          have HX : Hid (x3.patience = 0 ∧ x3.next.getD 2 0 = (a3 : Int) + 1 ∧ c + a3 ≤ 25) := ⟨hp, hn, hca⟩
                          have HE : Hid (ListAt entL wr (fun b => y3.ban b ∧ b ≠ g) (.slice ea3 (appX x3 L a3).entries.length ec3) (appX x3 L a3).entries) := hel
                          have z0 : wr.cell? ⟨g, 0, none⟩ = some (.int .i64 3) := hmc.1
                          have z1 : wr.cell? ⟨g, 1, none⟩ = some (.int .i64 1) := hmc.2.1
                          have z2 : wr.cell? ⟨g, 2, none⟩ = some (.int .i64 2) := hmc.2.2.1
                          have z3 : wr.cell? ⟨g, 3, none⟩ = some (.int .i64 6) := hmc.2.2.2.1
                          have z4 : wr.cell? ⟨g, 4, none⟩ = some (.int .i64 (a3 : Int)) := hmc.2.2.2.2.1
                          have z5 : wr.cell? ⟨g, 5, none⟩ = some (.int .i64 (atD x3 (a3 : Int)).1) := hmc.2.2.2.2.2.1
                          have z6 : wr.cell? ⟨g, 6, none⟩ = some (.int .i64 x3.commit) := hmc.2.2.2.2.2.2.1
                          have z7 : wr.cell? ⟨g, 7, none⟩ = some (.bool false) := hmc.2.2.2.2.2.2.2.1
                          have z8 : wr.cell? ⟨g, 8, none⟩ = some (.slice ea3 (appX x3 L a3).entries.length ec3) := hmc.2.2.2.2.2.2.2.2.1
                          have z9 : wr.cell? ⟨g, 9, none⟩ = some (.slice da3 0 dc3) := hmc.2.2.2.2.2.2.2.2.2
                          clear hM hG hp hn hca hmc hel HC
                          go_wp2_with fail
                          refine (mat_hear_y HL.out HM.out HG.out HX.out.2.1 HE.out).mono ?_
                          rintro e w11 ⟨r, rq, x4, y4, o, A, mv4, tv4, ea4, ec4, da4, dc4, rfl, hq3, hq4, hMid, hp4, hG4, hmc4, hkeep⟩
                          have HMid : Hid (MatMid w w11 L (j / 2) n m x4 y3 y4 lv3 sv3 mv4 tv4 a3 o A) := hMid
                          have HG4 : Hid (RowG w w11 g x4 y4) := hG4
                          have HP4 : Hid (x4.patience = 0) := hp4.trans HX.out.1
                          have HZ4 : Hid (∀ i v, wr.cell? ⟨g, i, none⟩ = some v → w11.cell? ⟨g, i, none⟩ = some v) := hkeep
                          have d0 : w11.cell? ⟨r, 0, none⟩ = some (.int .i64 4) := hmc4.1
                          have d1 : w11.cell? ⟨r, 1, none⟩ = some (.int .i64 2) := hmc4.2.1
                          have d2 : w11.cell? ⟨r, 2, none⟩ = some (.int .i64 1) := hmc4.2.2.1
                          have d3 : w11.cell? ⟨r, 3, none⟩ = some (.int .i64 6) := hmc4.2.2.2.1
                          have d4 : w11.cell? ⟨r, 4, none⟩ = some (.int .i64 A) := hmc4.2.2.2.2.1
                          have d5 : w11.cell? ⟨r, 5, none⟩ = some (.int .i64 0) := hmc4.2.2.2.2.2.1
                          have d6 : w11.cell? ⟨r, 6, none⟩ = some (.int .i64 0) := hmc4.2.2.2.2.2.2.1
                          have d7 : w11.cell? ⟨r, 7, none⟩ = some (.bool o) := hmc4.2.2.2.2.2.2.2.1
                          have d8 : w11.cell? ⟨r, 8, none⟩ = some (.slice ea4 0 ec4) := hmc4.2.2.2.2.2.2.2.2.1
                          have d9 : w11.cell? ⟨r, 9, none⟩ = some (.slice da4 0 dc4) := hmc4.2.2.2.2.2.2.2.2.2
                          have zz0 := HZ4.out 0 _ z0
                          have zz1 := HZ4.out 1 _ z1
                          have zz2 := HZ4.out 2 _ z2
                          have zz3 := HZ4.out 3 _ z3
                          have zz4 := HZ4.out 4 _ z4
                          have zz5 := HZ4.out 5 _ z5
                          have zz6 := HZ4.out 6 _ z6
                          have zz7 := HZ4.out 7 _ z7
                          have zz8 := HZ4.out 8 _ z8
                          have zz9 := HZ4.out 9 _ z9
                          clear z0 z1 z2 z3 z4 z5 z6 z7 z8 z9 hMid hG4 hp4 hkeep hmc4
                          cases o with
                          | true =>
                            go_wp2_with fail
                            refine (mat_hear_yes HL.out HMid.out HG4.out).mono ?_
                            rintro e w12 ⟨qa, rq2, x5, y5', lv5, sv5, rfl, hM5, hp5, hG5⟩
                            have HD5 : Hid (MsgDone w w12 L (j / 2 + 1) n m g) := ⟨x5, y5', lv5, sv5, mv4, tv4, hM5, hp5.trans HP4.out, hG5⟩
                            clear hM5 hp5 hG5
                            go_wp2_with fail
                            go_roundw
                            case rel => exact .inr (.inl ⟨rfl, HD5⟩)
                            case measure => simp [intOf]
                          | false =>
                            go_wp2_with fail
                            refine (mat_hear_no HL.out HMid.out HG4.out).mono ?_
                            rintro e w12 ⟨r2, rq2, x5, y5', lv5, sv5, a5, ea5, ec5, da5, dc5, rfl, hq5, hq6, hM5, hp5, hG5, hgr, haa, hn5, hmc5, hel5, hkeep5⟩
                            have HM5 : Hid (MatAt w w12 L (j / 2) n m x5 y5' lv5 sv5 mv4 tv4) := hM5
                            have HG5 : Hid (RowG w w12 g x5 y5') := hG5
                            have HX5 : Hid (x5.patience = 0 ∧ x5.next.getD 2 0 = (a5 : Int) + 1 ∧ c + 1 + a5 ≤ 25) := ⟨hp5.trans HP4.out, hn5, by have := HX.out.2.2; omega⟩
                            have HE5 : Hid (ListAt entL w12 (fun b => y5'.ban b ∧ b ≠ g) (.slice ea5 (appX x5 L a5).entries.length ec5) (appX x5 L a5).entries) := hel5
                            have b0 := hkeep5 0 _ zz0
                            have b1 := hkeep5 1 _ zz1
                            have b2 := hkeep5 2 _ zz2
                            have b3 := hkeep5 3 _ zz3
                            have b4 := hkeep5 4 _ zz4
                            have b5 := hkeep5 5 _ zz5
                            have b6 := hkeep5 6 _ zz6
                            have b7 := hkeep5 7 _ zz7
                            have b8 := hkeep5 8 _ zz8
                            have b9 := hkeep5 9 _ zz9
                            have f0 : ∀ i, w12.frozen? ⟨g, i, none⟩ = false := hG5.free
                            have e0 : w12.cell? ⟨r2, 0, none⟩ = some (.int .i64 3) := hmc5.1
                            have e1 : w12.cell? ⟨r2, 1, none⟩ = some (.int .i64 1) := hmc5.2.1
                            have e2 : w12.cell? ⟨r2, 2, none⟩ = some (.int .i64 2) := hmc5.2.2.1
                            have e3 : w12.cell? ⟨r2, 3, none⟩ = some (.int .i64 6) := hmc5.2.2.2.1
                            have e4 : w12.cell? ⟨r2, 4, none⟩ = some (.int .i64 (a5 : Int)) := hmc5.2.2.2.2.1
                            have e5 : w12.cell? ⟨r2, 5, none⟩ = some (.int .i64 (atD x5 (a5 : Int)).1) := hmc5.2.2.2.2.2.1
                            have e6 : w12.cell? ⟨r2, 6, none⟩ = some (.int .i64 x5.commit) := hmc5.2.2.2.2.2.2.1
                            have e7 : w12.cell? ⟨r2, 7, none⟩ = some (.bool false) := hmc5.2.2.2.2.2.2.2.1
                            have e8 : w12.cell? ⟨r2, 8, none⟩ = some (.slice ea5 (appX x5 L a5).entries.length ec5) := hmc5.2.2.2.2.2.2.2.2.1
                            have e9 : w12.cell? ⟨r2, 9, none⟩ = some (.slice da5 0 dc5) := hmc5.2.2.2.2.2.2.2.2.2
                            clear zz0 zz1 zz2 zz3 zz4 zz5 zz6 zz7 zz8 zz9 d0 d1 d2 d3 d4 d5 d6 d7 d8 d9 hM5 hG5 hp5 hn5 haa hmc5 hel5 hkeep5 HZ4
                            go_wp2_with fail
                            go_roundw
                            case rel =>
                              refine ⟨c + 1, by omega, by go_num, ?_⟩
                              refine mat_store (da := da5) (dc := dc5) HM5.out HG5.out HX5.out.1 HX5.out.2.1 HX5.out.2.2 HE5.out ?_ ?_ ?_ ?_
                              · (repeat (first | (with_reducible exact Keeps.refl _ _) | (with_reducible assumption) | ((with_reducible refine Keeps.setCell ?_ ?_ _); rotate_left 1; (· first | (refine .inl ?_; simp; done) | (refine .inr ?_; first | exact Nat.le_refl _ | (simp; done) | (simp; omega) | omega))) | (with_reducible refine Keeps.alloc ?_ _) | (with_reducible refine Keeps.drewN ?_ _) | (with_reducible refine Keeps.drew ?_)))
                              · intro i
                                go_simp
                              · go_simp
                              · refine ⟨?_, ?_, ?_, ?_, ?_, ?_, ?_, ?_, ?_, ?_⟩ <;> (go_simp <;> rfl)
                            case measure => simp [intOf]; omega
                      · have z12 : wr.cell? ⟨g, 12, none⟩ = some (.int .i64 3) := by
                          obtain ⟨x3, y3, lv3, sv3, mv3, tv3, h1, h2, h3⟩ := HS.out
                          exact h3.to3
                        have HD : Hid (MsgDone w wr L (j / 2 + 1) n m g) := HS.out
                        clear HS
                        go_wp2_with fail
                        go_loopw [22] (fun i wi => i = .int .i64 0 ∧ wi = wr) (fun _ _ => 0)
                        case atStart => exact ⟨rfl, rfl⟩
                        case round =>
                          obtain ⟨rfl, rfl⟩ := hrel
                          go_wp2_with fail
                          go_roundw
                          case rel => exact .inr (.inr ⟨by go_num, HD⟩)
                          case measure => simp [intOf]
                      · go_wp2_with fail
                        go_roundw
                        case rel =>
                          obtain ⟨x3, y3, lv3, sv3, mv3, tv3, h1, h2, h3⟩ := HS.out
                          refine ⟨j + 1, by omega, by go_num, x3, y3, lv3, sv3, mv3, tv3, ?_, ?_⟩
                          · rw [show (j + 1) / 2 = j / 2 + 1 by omega]
                            exact h1
                          · rw [h2, show (j + 1) % 2 = 0 by omega]
                            rfl
                        case measure => simp [intOf]; omega
                · have hj60 : j = 60 := by omega
                  subst hj60
                  obtain ⟨x3, y3, lv3, sv3, mv3, tv3, hM, hp⟩ := HW.out
                  have HM : Hid (MatAt w wr L 30 n m x3 y3 lv3 sv3 mv3 tv3) := hM
                  obtain ⟨e1, e2, e3, e4, e5, e6, e7⟩ := mat_end HL.out hM.mat
                  have h6 := hM.mat.mx.term
                  obtain ⟨LN, hLN⟩ : ∃ LN : Int, lastD x3 = LN := ⟨_, rfl⟩
                  rw [hLN] at e1 e3
                  rw [e3] at e2
                  rw [h6] at e5
                  have E : Hid (lastD y3 = LN ∧ lastD x3 = LN ∧ y3.commit = LN ∧ x3.commit = LN ∧ y3.leader = 1 ∧ y3.term = 6 ∧ x3.term = 6 ∧ fromD x3 1 = L ∧ fromD y3 1 = L) := ⟨e1, hLN, e2, e3, e4, e5, h6, e6, e7⟩
                  have HLL : Hid (L.length ≤ 25) := HL.out.len
                  clear e1 e2 e3 e4 e5 e6 e7 h6 hLN hM hp HW hlt
                  go_wp2_with fail
                  refine (cLast_is _ _ m y3 mv3 tv3 HM.out.two.cy LN E.out.1).mono ?_
                  rintro e w11 ⟨rfl, h11⟩
                  have K11 : Hid (Keeps [] wr w11) := by
                    obtain ⟨kk1, rfl⟩ := h11
                    exact (Keeps.refl [] wr).drewN kk1
                  clear h11
                  go_wp2_with fail
                  refine (cLast_is _ _ n x3 lv3 sv3 (HM.out.two.cx.k K11.out) LN E.out.2.1).mono ?_
                  rintro e w12 ⟨rfl, h12⟩
                  have K12 : Hid (Keeps [] wr w12) := by
                    obtain ⟨kk1, rfl⟩ := h12
                    exact K11.out.drewN kk1
                  clear h12
                  go_wp2_with fail
                  refine (cCommit_of _ _ m y3 mv3 tv3 (HM.out.two.cy.k K12.out) LN E.out.2.2.1).mono ?_
                  rintro e w13 ⟨rfl, rfl⟩
                  go_wp2_with fail
                  refine (cCommit_of _ _ n x3 lv3 sv3 (HM.out.two.cx.k K12.out) LN E.out.2.2.2.1).mono ?_
                  rintro e w13 ⟨rfl, rfl⟩
                  go_wp2_with fail
                  refine (cCommit_of _ _ n x3 lv3 sv3 (HM.out.two.cx.k K12.out) LN E.out.2.2.2.1).mono ?_
                  rintro e w13 ⟨rfl, rfl⟩
                  go_wp2_with fail
                  refine (cLast_is _ _ n x3 lv3 sv3 (HM.out.two.cx.k K12.out) LN E.out.2.1).mono ?_
                  rintro e w14 ⟨rfl, h14⟩
                  have K14 : Hid (Keeps [] wr w14) := by
                    obtain ⟨kk1, rfl⟩ := h14
                    exact K12.out.drewN kk1
                  clear h14
                  go_wp2_with fail
                  refine (cLeader_of _ _ m y3 mv3 tv3 (HM.out.two.cy.k K14.out) 1 E.out.2.2.2.2.1).mono ?_
                  rintro e w15 ⟨rfl, rfl⟩
                  go_wp2_with fail
                  refine (cTerm_is _ _ m y3 mv3 tv3 (HM.out.two.cy.k K14.out) 6 E.out.2.2.2.2.2.1).mono ?_
                  rintro e w15 ⟨rfl, rfl⟩
                  go_wp2_with fail
                  refine (cTerm_is _ _ n x3 lv3 sv3 (HM.out.two.cx.k K14.out) 6 E.out.2.2.2.2.2.2.1).mono ?_
                  rintro e w15 ⟨rfl, rfl⟩
                  go_wp2_with fail
                  refine (cFrom_of _ _ n x3 lv3 sv3 (HM.out.two.cx.k K14.out) 1 (by omega) (by omega) L E.out.2.2.2.2.2.2.2.1).mono ?_
                  rintro e w16 ⟨a16, q16, rfl, f16, k16⟩
                  have F16 : Hid (FreshEnts w15 w16 (.slice a16 L.length q16) L) := f16
                  have K16 : Hid (Keeps [] w15 w16) := k16
                  clear f16 k16
                  go_wp2_with fail
                  refine (cFrom_of _ _ m y3 mv3 tv3 ((HM.out.two.cy.k K14.out).k K16.out) 1 (by omega) (by omega) L E.out.2.2.2.2.2.2.2.2).mono ?_
                  rintro e w17 ⟨a17, q17, rfl, f17, k17⟩
                  have F17 : Hid (FreshEnts w16 w17 (.slice a17 L.length q17) L) := f17
                  have K17 : Hid (Keeps [] w16 w17) := k17
                  clear f17 k17
                  go_wp2_with fail
                  refine (sameEntries_any L (fun _ => True) (fun _ => True) a16 a17 q16 q17 w17 (OwnAt.list (F16.out.k K17.out) (fun _ _ _ => trivial) (fun _ _ => trivial)) (OwnAt.list F17.out (fun _ _ _ => trivial) (fun _ _ => trivial)) (by have := HLL.out; omega)).mono ?_
                  rintro e w18 ⟨rfl, k18⟩
                  have K18 : Hid (Keeps [] w17 w18) := k18
                  clear k18
                  go_wp2_with fail
                  refine (cAwake_any _).mono ?_
                  rintro e w19 ⟨rfl, k19⟩
                  have K19 : Hid (Keeps [] w w19) := (((((HM.out.keeps.trans K14.out (fun _ _ h => h)).trans K16.out (fun _ _ h => h)).trans K17.out (fun _ _ h => h)).trans K18.out (fun _ _ h => h)).trans k19 (fun _ _ h => h))
                  clear k19
                  go_wp2_with fail
                  go_ret
                  exact ⟨rfl, K19.out.below (Nat.le_refl _) (fun _ h => by cases h)⟩
        clear hK5
        go_loopw [10, 13, 14] (fun t v i wr => ∃ (k : Nat) (a : Option Addr) (q : Nat), k ≤ bs.length ∧ k ≤ 12 ∧ v = .slice a (kk + k) q ∧ t = .int .i64 (folT t0 bs k) ∧ i = .int .i64 k ∧ Hid (FreshEnts w1 wr (.slice a (kk + k) q) (folX ((logL ts).take kk) t0 bs k) ∧ Keeps [] w1 wr)) (fun _ _ i _ => 12 - (intOf i).toNat)
        case atStart => exact ⟨0, a3, q3, Nat.zero_le _, Nat.zero_le _, rfl, rfl, rfl, by rw [show folX ((logL ts).take kk) t0 bs 0 = (logL ts).take kk by simp [folX]]; exact HM3.out, k3⟩
        case round =>
          obtain ⟨k, a, q, hk, hk2, rfl, rfl, rfl, HW⟩ := hrel
          have i0 : (0 : Int) ≤ (k : Int) := Int.natCast_nonneg _
          by_cases hlt : k < bs.length ∧ k < 12
          · have i1 : (k : Int) < (bs.length : Int) := by omega
            have i2 : (k : Int) < 12 := by omega
            have i3 : (k : Int) < 256 := by omega
            obtain ⟨t, ht⟩ : ∃ t, bs[k]? = some t := ⟨bs[k], List.getElem?_eq_getElem hlt.1⟩
            have KW : Hid (Keeps [] w wr) := K1.out.trans HW.out.2 (fun _ _ h => h)
            obtain ⟨g, off, cg, ha, hcg, hcm, hgl, hgP⟩ := (HLB.out.k KW.out).addr (fun hn => by rw [hn] at hlt; simp at hlt)
            simp at ha
            obtain ⟨ha, hcc⟩ := ha
            subst ha
            subst hcc
            obtain ⟨cs, hcs1, hcs⟩ := (HLB.out.k KW.out).get ht
            have y0 : wr.cell? ⟨g, off + k, none⟩ = some (.int .i64 t) := by
              have := hcs 0 (.int .i64 t) (by rw [hcs1]; rfl)
              simpa [intL] using this
            have HTW : Hid (IntW t) := HD2.out t (List.mem_of_getElem? ht)
            have HT1 : Hid (folT t0 bs (k + 1) = if placeOf t 2 = 1 then 5 else folT t0 bs k) := by
              show _ = _
              conv => lhs; unfold folT
              rw [show bs.getD k 0 = t by rw [List.getD_eq_getElem?_getD, ht]; rfl]
            have bP := placeOf_bd t 2 (by omega)
            obtain ⟨p, hp⟩ : ∃ p, placeOf t 2 = p := ⟨_, rfl⟩
            obtain ⟨T, hT⟩ : ∃ T, folT t0 bs k = T := ⟨_, rfl⟩
            rw [hp] at HT1 bP
            rw [hT] at HT1
            have HP := hid hp
            rw [hT]
            clear hcs hcs1 ht hcm hcg hp hT
            obtain ⟨p1, p2⟩ := bP
            have HK1 := hid HW.out.2
            have HBB : Hid (∀ b, b = wr.heap.size → w1.heap.size ≤ b ∧ b ∉ ownB (.slice a (kk + k) q)) := fun b hb => ⟨by have := HK1.out.size; omega, fun hb' => by have := (OwnAt.ge HW.out.1 b hb').2; omega⟩
            rcases (show p = 1 ∨ p = 0 by omega) with rfl | rfl
            · have HT2 : Hid (folT t0 bs (k + 1) = 5) := by show _ = _; rw [HT1.out]; rfl
              go_wp2_with fail
              refine (place_is 1 t 2 _ (by omega) (by omega) HTW.out HP.out).mono ?_
              rintro e wa ⟨rfl, hwa⟩
              rw [hwa]
              clear hwa wa
              have HEL := hid (ent_new wr (folE t0 bs k) (cs := #[.int .u8 (k : Int), .int .u8 1]) (n := 2) HT2.out (rfl : (folE t0 bs k).cmd = false) (by show [Value.int .u8 (k : Int), .int .u8 1] = [Value.int .u8 ((UInt8.ofNat k).toNat : Int), .int .u8 ((1 : UInt8).toNat : Int)]; rw [u8_small (by omega)]; rfl) rfl (by decide) (by decide))
              go_wp2_with (at_builtin; go_must (refine wpList_append_off (L := entL) (PB := fun b => b = wr.heap.size) _ (by rfl) _ _ _ (by rfl) w1.heap.size 59 it _ 40 Try.underlying35 hi0 hz0 hz1 hz2 rfl (R := fun b => w1.heap.size ≤ b) (.slice a (kk + k) q) (by rfl) (folX ((logL ts).take kk) t0 bs k) [folE t0 bs k] (kk + k) (folX_is hkk t0 k) [[.int .i64 5, .bool false, .slice (some ⟨wr.heap.size, 0, none⟩) 2 2]] (HW.out.1.k (((Keeps.refl [] _).alloc _).alloc _)) (.slice _ _ _) (by rfl) 1 rfl (ElemsAt.one1 HEL.out.1) (Reads.one1 HEL.out.2 rfl) (by omega) (le_maxLen (by omega)) (Nat.le_trans HK1.out.size (((Keeps.refl [] _).alloc _).alloc _).size) (fun b _ hb => HBB.out b hb) ?_; intro a4 q4 w4 ho4 hk4 hv4))
              go_roundw
              case rel =>
                refine ⟨k + 1, a4, q4, by omega, by omega, rfl, by rw [HT2.out], by go_num, ?_, ?_⟩
                · rw [folX_succ]
                  exact ho4.out
                · refine (HK1.out.trans (((Keeps.refl [] wr).alloc _).alloc _) (fun _ _ h => h)).trans hk4.out (fun b hb hb' => ?_)
                  have := (OwnAt.ge HW.out.1 b hb').1
                  omega
              case measure => simp [intOf]; omega
            · have HT2 : Hid (folT t0 bs (k + 1) = T) := by show _ = _; rw [HT1.out]; rfl
              go_wp2_with fail
              refine (place_is 0 t 2 _ (by omega) (by omega) HTW.out HP.out).mono ?_
              rintro e wa ⟨rfl, hwa⟩
              rw [hwa]
              clear hwa wa
              have HEL := hid (ent_new wr (folE t0 bs k) (cs := #[.int .u8 (k : Int), .int .u8 1]) (n := 2) HT2.out (rfl : (folE t0 bs k).cmd = false) (by show [Value.int .u8 (k : Int), .int .u8 1] = [Value.int .u8 ((UInt8.ofNat k).toNat : Int), .int .u8 ((1 : UInt8).toNat : Int)]; rw [u8_small (by omega)]; rfl) rfl (by decide) (by decide))
              go_wp2_with (at_builtin; go_must (refine wpList_append_off (L := entL) (PB := fun b => b = wr.heap.size) _ (by rfl) _ _ _ (by rfl) w1.heap.size 59 it _ 40 Try.underlying35 hi0 hz0 hz1 hz2 rfl (R := fun b => w1.heap.size ≤ b) (.slice a (kk + k) q) (by rfl) (folX ((logL ts).take kk) t0 bs k) [folE t0 bs k] (kk + k) (folX_is hkk t0 k) [[.int .i64 T, .bool false, .slice (some ⟨wr.heap.size, 0, none⟩) 2 2]] (HW.out.1.k (((Keeps.refl [] _).alloc _).alloc _)) (.slice _ _ _) (by rfl) 1 rfl (ElemsAt.one1 HEL.out.1) (Reads.one1 HEL.out.2 rfl) (by omega) (le_maxLen (by omega)) (Nat.le_trans HK1.out.size (((Keeps.refl [] _).alloc _).alloc _).size) (fun b _ hb => HBB.out b hb) ?_; intro a4 q4 w4 ho4 hk4 hv4))
              go_roundw
              case rel =>
                refine ⟨k + 1, a4, q4, by omega, by omega, rfl, by rw [HT2.out], by go_num, ?_, ?_⟩
                · rw [folX_succ]
                  exact ho4.out
                · refine (HK1.out.trans (((Keeps.refl [] wr).alloc _).alloc _) (fun _ _ h => h)).trans hk4.out (fun b hb hb' => ?_)
                  have := (OwnAt.ge HW.out.1 b hb').1
                  omega
              case measure => simp [intOf]; omega
          · have hkm : k = min bs.length 12 := by omega
            clear hlt
            subst hkm
            rcases (show (bs.length : Int) ≤ ((min bs.length 12 : Nat) : Int) ∨ (((min bs.length 12 : Nat) : Int) < (bs.length : Int) ∧ (12 : Int) ≤ ((min bs.length 12 : Nat) : Int)) by omega) with i1 | ⟨i1, i2⟩
            · go_wp2_with fail
              exact HW
            · go_wp2_with fail
              exact HW
      clear hK4
      rcases (show kk = 0 ∨ 0 < kk by omega) with hz | hz
      · subst hz
        go_wp2_with fail
        all_goals exact HM4 3 (.inl rfl) _ _ _ _ _ _ _ _ _ _ _
      · obtain ⟨k', hk'⟩ : ∃ k' : Nat, kk = k' + 1 := ⟨kk - 1, by omega⟩
        have hll := logL_len ts
        obtain ⟨e, he⟩ : ∃ e, (logL ts)[k']? = some e := ⟨(logL ts)[k']'(by omega), List.getElem?_eq_getElem _⟩
        obtain ⟨g, off, cg, ha, hcg, hcm, hgl, hgP⟩ := (HL1.out.k k3).addr (fun hn => by rw [hn] at hll; simp at hll; omega)
        simp at ha
        obtain ⟨ha, hx1, hx2⟩ := ha
        have hl1 := HL1.out.k k3
        subst ha
        obtain ⟨cs, ⟨v, rfl, hbv⟩, hcs⟩ := hl1.get he
        have y0 : w3.cell? ⟨g, off + k' * 3, none⟩ = some (.int .i64 e.term) := hcs 0 _ rfl
        have hT := (logL_mem (List.mem_of_getElem? he)).1
        obtain ⟨T, hTe⟩ : ∃ T, e.term = T := ⟨_, rfl⟩
        rw [hTe] at y0 hT
        have i1 : (0 : Int) < (kk : Int) := by omega
        have i2 : IntKind.i64.wrap ((kk : Int) - 1) = (k' : Int) := by rw [IntWalk.i64_in _ (by omega)]; omega
        have i3 : (k' : Int) < ((min ts.length 12 : Nat) : Int) := by omega
        have i4 : (0 : Int) ≤ (k' : Int) := Int.natCast_nonneg _
        have i5 : k' < min ts.length 12 := by omega
        have HKK := hid hk'
        clear hcs hbv he hcm hcg hgl hgP hl1 hx1 hx2 hk' hz hTe
        rcases hT with rfl | rfl
        · go_wp2_with fail
          all_goals exact HM4 3 (.inl rfl) _ _ _ _ _ _ _ _ _ _ _
        · go_wp2_with fail
          all_goals exact HM4 5 (.inr rfl) _ _ _ _ _ _ _ _ _ _ _
    refine (lEntries_is w1 ((logL ts).take kk) kk (by rw [List.length_take, logL_len]; omega) a q _ HP1.out (fun e he => by have := (logL_mem (List.mem_of_mem_take he)).2; omega) (by omega)).mono ?_
    rintro e w3 ⟨a3, q3, rfl, f3, k3⟩
    clear hK3
    go_wp2_with fail
    exact HM3 a3 q3 w3 k3 f3 _ _ _ _ _ _ _ _ _ _ _ _ _ _ _ _ _ _ _ _ _ _ _ _ _ _ _ _ _ _ _ _ _
  clear hK1
  go_loopw [9, 10, 11] (fun v t i wr => ∃ (k : Nat) (a : Option Addr) (q : Nat), k ≤ ts.length ∧ k ≤ 12 ∧ v = .slice a k q ∧ t = .int .i64 (logT ts k) ∧ i = .int .i64 k ∧ Hid (FreshEnts w wr (.slice a k q) (logX ts k) ∧ Keeps [] w wr)) (fun _ _ i _ => 12 - (intOf i).toNat)
  case atStart => exact ⟨0, none, 0, Nat.zero_le _, Nat.zero_le _, rfl, rfl, rfl, OwnAt.nil _ _ _ _, Keeps.refl [] w⟩
  case round =>
    obtain ⟨k, a, q, hk, hk2, rfl, rfl, rfl, HW⟩ := hrel
    have i0 : (0 : Int) ≤ (k : Int) := Int.natCast_nonneg _
    by_cases hlt : k < ts.length ∧ k < 12
    · have i1 : (k : Int) < (ts.length : Int) := by omega
      have i2 : (k : Int) < 12 := by omega
      obtain ⟨t, ht⟩ : ∃ t, ts[k]? = some t := ⟨ts[k], List.getElem?_eq_getElem hlt.1⟩
      obtain ⟨g, off, cg, ha, hcg, hcm, hgl, hgP⟩ := (HLA.out.k HW.out.2).addr (fun hn => by rw [hn] at hlt; simp at hlt)
      simp at ha
      obtain ⟨ha, hcc⟩ := ha
      subst ha
      subst hcc
      obtain ⟨cs, hcs1, hcs⟩ := (HLA.out.k HW.out.2).get ht
      have y0 : wr.cell? ⟨g, off + k, none⟩ = some (.int .i64 t) := by
        have := hcs 0 (.int .i64 t) (by rw [hcs1]; rfl)
        simpa [intL] using this
      have HTW : Hid (IntW t) := HD.out t (List.mem_of_getElem? ht)
      have HT1 : Hid (logT ts (k + 1) = if placeOf t 2 = 1 then 4 else logT ts k) := by
        show _ = _
        conv => lhs; unfold logT
        rw [show ts.getD k 0 = t by rw [List.getD_eq_getElem?_getD, ht]; rfl]
      have bP := placeOf_bd t 2 (by omega)
      obtain ⟨p, hp⟩ : ∃ p, placeOf t 2 = p := ⟨_, rfl⟩
      obtain ⟨T, hT⟩ : ∃ T, logT ts k = T := ⟨_, rfl⟩
      rw [hp] at HT1 bP
      rw [hT] at HT1
      have HP := hid hp
      rw [hT]
      clear hcs hcs1 ht hcm hcg hp hT
      obtain ⟨p1, p2⟩ := bP
      have HK1 := hid HW.out.2
      have HBB : Hid (∀ b, b = wr.heap.size → w.heap.size ≤ b ∧ b ∉ ownB (.slice a k q)) := fun b hb => ⟨by have := HK1.out.size; omega, fun hb' => by have := (OwnAt.ge HW.out.1 b hb').2; omega⟩
      rcases (show p = 1 ∨ p = 0 by omega) with rfl | rfl
      · have HT2 : Hid (logT ts (k + 1) = 4) := by show _ = _; rw [HT1.out]; rfl
        go_wp2_with fail
        refine (place_is 1 t 2 _ (by omega) (by omega) HTW.out HP.out).mono ?_
        rintro e w1 ⟨rfl, hwa⟩
        rw [hwa]
        clear hwa w1
        have HEL := hid (ent_new wr (logE ts k) (cs := #[.int .u8 (k : Int)]) (n := 1) HT2.out (rfl : (logE ts k).cmd = true) (by show [Value.int .u8 (k : Int)] = [Value.int .u8 ((UInt8.ofNat k).toNat : Int)]; rw [u8_small (by omega)]) rfl (by decide) (by decide))
        go_wp2_with (at_builtin; go_must (refine wpList_append_off (L := entL) (PB := fun b => b = wr.heap.size) _ (by rfl) _ _ _ (by rfl) w.heap.size 59 it _ 40 Try.underlying35 hi0 hz0 hz1 hz2 rfl (R := fun b => w.heap.size ≤ b) (.slice a k q) (by rfl) (logX ts k) [logE ts k] k (logX_len ts k) [[.int .i64 4, .bool true, .slice (some ⟨wr.heap.size, 0, none⟩) 1 1]] (HW.out.1.k (((Keeps.refl [] _).alloc _).alloc _)) (.slice _ _ _) (by rfl) 1 rfl (ElemsAt.one1 HEL.out.1) (Reads.one1 HEL.out.2 rfl) (by omega) (le_maxLen (by omega)) (Nat.le_trans HK1.out.size (((Keeps.refl [] _).alloc _).alloc _).size) (fun b _ hb => HBB.out b hb) ?_; intro a4 q4 w4 ho4 hk4 hv4))
        go_roundw
        case rel =>
          refine ⟨k + 1, a4, q4, by omega, by omega, rfl, by rw [HT2.out], by go_num, ?_, ?_⟩
          · rw [logX_succ]
            exact ho4.out
          · refine (HK1.out.trans (((Keeps.refl [] wr).alloc _).alloc _) (fun _ _ h => h)).trans hk4.out (fun b hb hb' => ?_)
            have := (OwnAt.ge HW.out.1 b hb').1
            omega
        case measure => simp [intOf]; omega
      · have HT2 : Hid (logT ts (k + 1) = T) := by show _ = _; rw [HT1.out]; rfl
        go_wp2_with fail
        refine (place_is 0 t 2 _ (by omega) (by omega) HTW.out HP.out).mono ?_
        rintro e w1 ⟨rfl, hwa⟩
        rw [hwa]
        clear hwa w1
        have HEL := hid (ent_new wr (logE ts k) (cs := #[.int .u8 (k : Int)]) (n := 1) HT2.out (rfl : (logE ts k).cmd = true) (by show [Value.int .u8 (k : Int)] = [Value.int .u8 ((UInt8.ofNat k).toNat : Int)]; rw [u8_small (by omega)]) rfl (by decide) (by decide))
        go_wp2_with (at_builtin; go_must (refine wpList_append_off (L := entL) (PB := fun b => b = wr.heap.size) _ (by rfl) _ _ _ (by rfl) w.heap.size 59 it _ 40 Try.underlying35 hi0 hz0 hz1 hz2 rfl (R := fun b => w.heap.size ≤ b) (.slice a k q) (by rfl) (logX ts k) [logE ts k] k (logX_len ts k) [[.int .i64 T, .bool true, .slice (some ⟨wr.heap.size, 0, none⟩) 1 1]] (HW.out.1.k (((Keeps.refl [] _).alloc _).alloc _)) (.slice _ _ _) (by rfl) 1 rfl (ElemsAt.one1 HEL.out.1) (Reads.one1 HEL.out.2 rfl) (by omega) (le_maxLen (by omega)) (Nat.le_trans HK1.out.size (((Keeps.refl [] _).alloc _).alloc _).size) (fun b _ hb => HBB.out b hb) ?_; intro a4 q4 w4 ho4 hk4 hv4))
        go_roundw
        case rel =>
          refine ⟨k + 1, a4, q4, by omega, by omega, rfl, by rw [HT2.out], by go_num, ?_, ?_⟩
          · rw [logX_succ]
            exact ho4.out
          · refine (HK1.out.trans (((Keeps.refl [] wr).alloc _).alloc _) (fun _ _ h => h)).trans hk4.out (fun b hb hb' => ?_)
            have := (OwnAt.ge HW.out.1 b hb').1
            omega
        case measure => simp [intOf]; omega
    · have hkm : k = min ts.length 12 := by omega
      have HKM := hid hkm
      have HL1 : Hid (ListAt entL wr (fun b => w.heap.size ≤ b) (.slice a k q) (logL ts)) := by
        have h1 := OwnAt.list (P' := fun b => w.heap.size ≤ b) HW.out.1 (fun _ _ h => h.1) (fun b hb => (OwnAt.ge HW.out.1 b hb).1)
        have h2 : logL ts = logX ts k := by unfold logL; rw [hkm]
        show ListAt _ _ _ _ _
        rw [h2]
        exact h1
      clear hlt
      subst hkm
      rcases (show (ts.length : Int) ≤ ((min ts.length 12 : Nat) : Int) ∨ (((min ts.length 12 : Nat) : Int) < (ts.length : Int) ∧ (12 : Int) ≤ ((min ts.length 12 : Nat) : Int)) by omega) with i1 | ⟨i1, i2⟩
      · go_wp2_with fail
        exact HM1 a q wr HW.out.2 HL1 _ _ _ _ _ _ _ _ _ _ _ _ _ _ _ _ _ _ _ _ _ _ _ _
      · go_wp2_with fail
        exact HM1 a q wr HW.out.2 HL1 _ _ _ _ _ _ _ _ _ _ _ _ _ _ _ _ _ _ _ _ _ _ _ _

end Go.Proofs.Ytpppoajnbhipeaa

/- 'CoreMatches' returns true whatever the input, and what came in reads as it did. -/
namespace Go.Proofs.Ytpppoajnbhipeaa
open Go Go.RowKit Go.WideShapes Go.ChangeShapes Go.Deep

section
variable {H : Type} {enc : TypeId × Value → H}
theorem trodAll_four' {P : Program} {w : World} {base : Nat} {spare : Nat → Bool} {held : Bool} {t t1 t2 t3 : TypeId} {args : Array Value} {ds : List (DataW H)} {ps : List MemPlace} (h : DataW.TrodAll enc P w base spare held [t, t1, t2, t3] args.toList ds ps) :
    ∃ v v1 v2 v3 d d1 d2 d3 p p1 p2 p3, args = #[v, v1, v2, v3] ∧ DataW.Trod enc P w base spare held t v d p ∧ DataW.Trod enc P w base spare held t1 v1 d1 p1 ∧ DataW.Trod enc P w base spare held t2 v2 d2 p2 ∧ DataW.Trod enc P w base spare held t3 v3 d3 p3 := by
  obtain ⟨v, vs, d, ds', p, q, hargs, rfl, rfl, hd, hrest⟩ := trodAll_cons h
  obtain ⟨v1, vs1, d1, ds1, p1, q1, rfl, rfl, rfl, hd1, hr1⟩ := trodAll_cons hrest
  obtain ⟨v2, vs2, d2, ds2, p2, q2, rfl, rfl, rfl, hd2, hr2⟩ := trodAll_cons hr1
  obtain ⟨v3, vs3, d3, ds3, p3, q3, rfl, rfl, rfl, hd3, hr3⟩ := trodAll_cons hr2
  obtain ⟨rfl, rfl, rfl⟩ := trodAll_nil hr3
  exact ⟨v, v1, v2, v3, d, d1, d2, d3, p, p1, p2, p3, by cases args; simp_all, hd, hd1, hd2, hd3⟩
end

theorem matches_any (keep asks : Int) (ts bs : List Int) (a0 a1 : Option Addr) (c0 c1 : Nat) (P : Nat → Prop) (w : World) (wk : (Lit.int .i64 keep).wf = true) (wa : (Lit.int .i64 asks).wf = true)
    (hl : ListAt intL w P (.slice a0 ts.length c0) ts) (hw : ∀ t ∈ ts, IntW t) (hl2 : ListAt intL w P (.slice a1 bs.length c1) bs) (hw2 : ∀ t ∈ bs, IntW t) :
    Calls Try.prog 9 #[.slice a0 ts.length c0, .int .i64 keep, .slice a1 bs.length c1, .int .i64 asks] w fun e w' => e = .returned (.bool true) ∧ Below w.heap.size w w' := by
  have hb1 := placeOf_bd keep ((min ts.length 12 : Nat) + 1) (by omega)
  have hb2 := placeOf_bd asks 12 (by omega)
  obtain ⟨kk, hk⟩ := Int.eq_ofNat_of_zero_le hb1.1
  obtain ⟨N, hN⟩ := Int.eq_ofNat_of_zero_le hb2.1
  exact matches_walk keep asks ts bs kk N a0 a1 c0 c1 P w wk wa hk hN hl hw hl2 hw2

set_option maxRecDepth 100000 in
theorem coreMatches_lifted (os : Os) (started : os.Started) (H : Type) (enc : TypeId × Value → H) :
    ReturnsInHanded {} Try.checked os 9 .any (Rows.coreMatchesSpec.pre6 enc Try.prog Try.f9 Rows.coreMatchesRow.domain false) (Rows.coreMatchesSpec.post enc Try.prog Try.f9 false true false false) := by
  refine law_lifted os started H enc (by kernel_rfl) Try.func9 rfl rfl (by kernel_rfl) (fun ds hl => ?_) (ChangeSpec.witness6 (enc := enc) (C := Try.checked) false ⟨#[], #[.slice none 0 0, .int .i64 0, .slice none 0 0, .int .i64 0], []⟩ 8 (by kernel_rfl) (by kernel_rfl) (by kernel_rfl) (by kernel_rfl)) ?_
  · match ds, hl with
    | [_, _, _, _], _ => rfl
  · intro W base args ds p hval hA hlt
    rw [Try.params9] at hA hval
    obtain ⟨v0, v1, v2, v3, d0, d1, d2, d3, p0, p1, p2, p3, rfl, h0, h1, h2, h3⟩ := trodAll_four' hA
    obtain ⟨a1, len1, cap1, rfl⟩ := okWide_slice Try.underlying50 (hval 0 50 v0 rfl rfl)
    obtain ⟨z1, rfl, rfl, rfl, wz1⟩ := open_int Try.underlying3 (hval 1 3 v1 rfl rfl) h1
    obtain ⟨a2, len2, cap2, rfl⟩ := okWide_slice Try.underlying50 (hval 2 50 v2 rfl rfl)
    obtain ⟨z2, rfl, rfl, rfl, wz2⟩ := open_int Try.underlying3 (hval 3 3 v3 rfl rfl) h3
    obtain ⟨ts, rfl, hl, hw⟩ := open_list_arg intL IntW Try.underlying50 (by kernel_rfl) (fun fu cs x h hl => open_int1 W fu cs x h hl) h0
    obtain ⟨bs, rfl, hl2, hw2⟩ := open_list_arg intL IntW Try.underlying50 (by kernel_rfl) (fun fu cs x h hl => open_int1 W fu cs x h hl) h2
    exact matches_any z1 z2 ts bs a1 a2 cap1 cap2 _ W wz1 wz2 hl hw hl2 hw2

theorem coreMatches_holds : Rows.CoreMatchesSaid :=
  OpenClaim.holds_of_wide 9 Try.f9 rfl rfl rfl rfl rfl rfl rfl ⟨rfl, rfl, rfl, rfl, rfl⟩ rfl rfl rfl rfl rfl (by kernel_rfl) Try.func9 (by kernel_rfl) (of_decide_eq_true (by kernel_rfl))
    (by unfold Func.isWrapper; rw [if_neg (of_decide_eq_false (by kernel_rfl))]; exact ⟨rfl, rfl⟩) (fun os started H enc _ => coreMatches_lifted os started H enc)

end Go.Proofs.Ytpppoajnbhipeaa
