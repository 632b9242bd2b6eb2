/- LexAll: any text's tokens, or where the first wrong one is. -/
import Derived.Test.YtdpbjdkkaekebaaDoorLxR
import Derived.Test.YtdpbjdkkaekebaaDoorLxP
namespace Go.Proofs.YtdpbjdkkaekebaaDoor
open Go Go.RowKit

set_option maxRecDepth 100000 in
set_option maxHeartbeats 4000000 in
theorem same6_any (va vb : Value) (l : List TokD) (P P' : Nat → Prop) (w : World) (ha : ListAt tokL w P va l) (hb : ListAt tokL w P' vb l) :
    Calls Tryd.prog 12 #[va, vb] w fun e w' => e = .returned (.bool true) ∧ Keeps [] w w' := by
  have HA := hid ha
  have HB := hid hb
  obtain ⟨n, hn⟩ : ∃ n, l.length = n := ⟨_, rfl⟩
  have HN := hid hn
  obtain ⟨a, c, rfl⟩ := ha.form
  obtain ⟨b, d, rfl⟩ := hb.form
  rw [hn] at HA HB ⊢
  by_cases h0 : n = 0
  · subst h0
    clear ha hb hn
    go_enter Tryd.func12, Tryd.ntmps12
    go_wp2_with fail
    go_loopw [5] (fun i wr => i = .int .i64 0 ∧ Keeps [] w wr) (fun _ _ => 0)
    case atStart => exact ⟨rfl, Keeps.refl _ _⟩
    case round =>
      obtain ⟨rfl, HW⟩ := hrel
      go_wp2_with fail
      go_ret
      exact ⟨rfl, HW⟩
  · have hne : l ≠ [] := fun e => h0 (by rw [← hn, e]; rfl)
    obtain ⟨ba, oa, c', hv, hc1, hc2, _, _⟩ := ha.addr hne
    simp at hv
    obtain ⟨rfl, rfl⟩ := hv
    obtain ⟨bb, ob, d', hv, hd1, hd2, _, _⟩ := hb.addr hne
    simp at hv
    obtain ⟨rfl, rfl⟩ := hv
    rw [hn] at hc1 hd1
    have hmx : n ≤ 9223372036854775807 := by unfold maxLen at hc2; omega
    clear ha hb hne hc2 hd2 hn
    go_enter Tryd.func12, Tryd.ntmps12
    go_wp2_with fail
    go_loopw [5] (fun i wr => ∃ k : Nat, k ≤ n ∧ i = .int .i64 k ∧ Hid (Keeps [] w wr)) (fun i _ => n - (intOf i).toNat)
    case atStart => exact ⟨0, Nat.zero_le _, rfl, Keeps.refl _ _⟩
    case round =>
      obtain ⟨k, hk, rfl, HW⟩ := hrel
      have i0 : (0 : Int) ≤ (k : Int) := Int.natCast_nonneg _
      by_cases hlt : k < n
      · have hkI : (k : Int) < (n : Int) := by omega
        have i1 : (k : Int) + 1 ≤ 9223372036854775807 := by omega
        obtain ⟨t, ht⟩ : ∃ t, l[k]? = some t := ⟨_, List.getElem?_eq_getElem (by rw [HN.out]; exact hlt)⟩
        obtain ⟨x0, x1, x2, x3⟩ := tok_get (HA.out.k HW.out) ht
        obtain ⟨z0, z1, z2, z3⟩ := tok_get (HB.out.k HW.out) ht
        clear ht h0
        go_wp2_with fail
        go_quiet (fail)
        go_wp2_with fail
        exact ⟨⟨k + 1, hlt, by go_num, HW.out.trans (G := []) (by exact Keeps.K) (fun _ _ h => h)⟩, by simp [intOf]; omega⟩
      · have hkI : (n : Int) ≤ (k : Int) := by omega
        clear h0 hlt
        go_wp2_with fail
        go_ret
        exact ⟨rfl, HW.out⟩

set_option maxRecDepth 100000 in
set_option maxHeartbeats 4000000 in
theorem all_any (s : ByteArray) (w : World) (hT : Tabs w) (hE : Errs w) :
    Calls Tryd.prog 3 #[.string s] w fun e w' => e = .returned (.bool true) ∧ Keeps [] w w' := by
  have HAW := hid (fun w1 => awake6_any w1)
  have HT := hid hT
  have HE := hid hE
  by_cases hbig : 5000 < s.size
  · have hI : 5000 < (s.size : Int) := by omega
    clear hT hE hbig
    go_enter Tryd.func3, Tryd.ntmps3
    go_wp2_with fail
    refine (HAW.out _ HT.out HE.out).mono ?_
    rintro e w2 ⟨rfl, hk⟩
    have K := hid hk
    clear hk
    go_wp2_with fail
    go_ret
    exact ⟨rfl, K.out⟩
  have hI : (s.size : Int) ≤ 5000 := by omega
  have HX := hid (lxLex_any s w hT hE (by omega))
  have HY := hid (fun w1 => r6Lex_any s w1 (by omega))
  obtain ⟨⟨ts, p, e⟩, hR⟩ : ∃ x, lexR s.data.toList = x := ⟨_, rfl⟩
  unfold LexPost at HX HY
  rw [hR] at HX HY
  dsimp only at HX HY
  clear hT hE hbig hR
  go_enter Tryd.func3, Tryd.ntmps3
  go_wp2_with fail
  refine HX.out.mono ?_
  rintro e' w2 ⟨va, rfl, hla, hk⟩
  have K2 := hid hk
  have LA2 := hid hla
  obtain ⟨xa, xq, rfl⟩ := hla.form
  clear hk hla
  go_wp2_with fail
  refine (HY.out _).mono ?_
  rintro e' w3 ⟨vb, rfl, hlb, hk⟩
  have K3 := hid (K2.out.trans hk (fun _ _ h => h))
  have LA3 := hid (LA2.out.k hk)
  have LB3 := hid hlb
  obtain ⟨ya, yq, rfl⟩ := hlb.form
  clear hk hlb
  go_wp2_with fail
  refine (same6_any _ _ ts _ _ _ LA3.out LB3.out).mono ?_
  rintro e' w4 ⟨rfl, hk⟩
  have K4 := hid (K3.out.trans hk (fun _ _ h => h))
  clear hk
  have f1 : ((p : Int) == (p : Int)) = true := by simp
  have f2 : ((e : Int) == (e : Int)) = true := by simp
  go_wp2_with fail
  refine (HAW.out _ (HT.out.k K4.out) (HE.out.k K4.out)).mono ?_
  rintro e w5 ⟨rfl, hk⟩
  have K := hid (K4.out.trans hk (fun _ _ h => h))
  clear hk
  go_wp2_with fail
  go_ret
  exact ⟨rfl, K.out⟩

end Go.Proofs.YtdpbjdkkaekebaaDoor
