/- The document's reader: a number is read. (Printed by gen_rdb.py out of RdA.) -/
import Derived.Test.YtnjdepojmnniaaaGreatDoorQ22

set_option linter.unusedSimpArgs false
set_option linter.unusedVariables false
namespace Go.Proofs.YtnjdepojmnniaaaGreatDoor
open Go Go.RowKit

theorem add_step (u k x : Nat) (hu : u < 128 ^ k) (hk : k ≤ 9) (hx : x < 256) (h9 : k = 9 → x ≤ 1) : IntKind.u64.wrap ((u : Int) + IntKind.u64.wrap ((x : Int) % 128 * 2 ^ (7 * k))) = ((u + x % 128 * 128 ^ k : Nat) : Int) := by
  have hs := step_lt hk h9
  have h64 := step_64 hu hk h9
  have e : ((x : Int) % 128) * 2 ^ (7 * k) = ((x % 128 * 128 ^ k : Nat) : Int) := by
    rw [← pow128]; push_cast; rfl
  rw [e, u64_id hs, ← Int.natCast_add, u64_id h64]
theorem add_step0 (u x : Nat) (hu : u < 128 ^ 0) (hx : x < 256) : IntKind.u64.wrap ((u : Int) + (x : Int) % 128) = ((u + x % 128 * 128 ^ 0 : Nat) : Int) := by
  rw [IntKind.wrap_u64]
  simp at hu ⊢
  omega
theorem add_step9 (u x : Nat) (h : u + x % 128 * 128 ^ 9 < 18446744073709551616) : IntKind.u64.wrap ((u : Int) + (x : Int) % 128 * 9223372036854775808) = ((u + x % 128 * 128 ^ 9 : Nat) : Int) := by
  have e : (128 : Nat) ^ 9 = 9223372036854775808 := by decide
  rw [e] at h ⊢
  rw [IntKind.wrap_u64]
  omega
theorem read_odd (Z : Int) (z : Nat) (hZ : Z = (z : Int)) (hz : z < 18446744073709551616) (h : (Z.tmod 2 == 1) = true) : wrap64 (wrap64 (-wrap64 (IntKind.u64.wrap (Z.tdiv 2))) - 1) = unzig z := by
  subst hZ
  have h1 : ((z : Int)).tmod 2 = ((z % 2 : Nat) : Int) := (Int.tmod_eq_emod_of_nonneg (by omega)).trans (by omega)
  have h2 : ((z : Int)).tdiv 2 = ((z / 2 : Nat) : Int) := (Int.tdiv_eq_ediv_of_nonneg (by omega)).trans (by omega)
  rw [h1] at h
  rw [h2, IntKind.wrap_u64]
  have h3 : z % 2 = 1 := by have h4 := beq_iff_eq.1 h; omega
  unfold unzig wrap64
  rw [if_pos h3]
  omega
theorem read_even (Z : Int) (z : Nat) (hZ : Z = (z : Int)) (hz : z < 18446744073709551616) (h : (Z.tmod 2 == 1) = false) : wrap64 (IntKind.u64.wrap (Z.tdiv 2)) = unzig z := by
  subst hZ
  have h1 : ((z : Int)).tmod 2 = ((z % 2 : Nat) : Int) := (Int.tmod_eq_emod_of_nonneg (by omega)).trans (by omega)
  have h2 : ((z : Int)).tdiv 2 = ((z / 2 : Nat) : Int) := (Int.tdiv_eq_ediv_of_nonneg (by omega)).trans (by omega)
  rw [h1] at h
  rw [h2, IntKind.wrap_u64]
  have h3 : ¬ z % 2 = 1 := by intro hh; rw [hh] at h; simp at h
  unfold unzig wrap64
  rw [if_neg h3]
  omega

set_option maxRecDepth 100000 in
set_option maxHeartbeats 1600000 in
theorem r3RInt_any (n : Nat) (a : Option Addr) (c : Nat) (bs : List UInt8) (p : Nat) (bad : Bool) (w : World) (h : RdAt 112 w n a c bs p bad) :
    Calls Tryz.prog 72 #[.pointer (some ⟨n, 0, none⟩)] w (RdPost 112 n a c bs (rdD bs p bad) w) := by
  have H := hid h
  have y0 : w.cell? ⟨n, 0, none⟩ = some (.slice a bs.length c) := cell_of_block h.row 0
  have y1 : w.cell? ⟨n, 1, none⟩ = some (.int .i64 p) := cell_of_block h.row 1
  have y2 : w.cell? ⟨n, 2, none⟩ = some (.bool bad) := cell_of_block h.row 2
  clear h
  go_enter Tryz.func72, Tryz.ntmps72
  go_wp2_with fail
  go_loopw [3, 4] (fun s i wr => ∃ (k u : Nat), s = .int .u64 u ∧ i = .int .i64 k ∧ k ≤ 10 ∧ Hid (RdAt 112 wr n a c bs (p + k) bad ∧ (k ≠ 0 → bad = false) ∧ u < 128 ^ k ∧ rdInt (bs.drop p) = rdGo (10 - k) k (bs.drop (p + k)) u k ∧ Keeps [n] w wr)) (fun _ i _ => 10 - (intOf i).toNat)
  case atStart => exact ⟨0, 0, rfl, rfl, by omega, H.out, by simp, by simp, rfl, Keeps.refl _ w⟩
  case round =>
    obtain ⟨k, u, rfl, rfl, hk, HW⟩ := hrel
    have i0 : (0 : Int) ≤ (k : Int) := Int.natCast_nonneg _
    have z0 : wr.cell? ⟨n, 0, none⟩ = some (.slice a bs.length c) := cell_of_block HW.out.1.row 0
    have z1 : wr.cell? ⟨n, 1, none⟩ = some (.int .i64 (p + k : Nat)) := cell_of_block HW.out.1.row 1
    have z2 : wr.cell? ⟨n, 2, none⟩ = some (.bool bad) := cell_of_block HW.out.1.row 2
    have f0 : ∀ i, wr.frozen? ⟨n, i, none⟩ = false := fun i => frozen_of_row wr n i _ _ HW.out.1.row
    clear y0 y1 y2
    by_cases hlt : k < 10
    · have hlt' : (k : Int) < 10 := by omega
      rcases bad with _ | _
      · by_cases hp : p + k < bs.length
        · have hp' : (p : Int) + (k : Int) < (bs.length : Int) := by omega
          obtain ⟨x, hx⟩ : ∃ x, bs[p + k]? = some x := ⟨_, List.getElem?_eq_getElem hp⟩
          have HX := hid hx
          have hb := HW.out.1.bytes.2
          rcases hb with ⟨h0, _⟩ | ⟨_, b, off, c', hv, h1, h2, h3, hcell⟩
          · omega
          have xb := hcell (p + k) (.int .u8 x.toNat) (by simp [u8s, hx])
          cases hv
          clear h1 h2 h3 hcell hx
          have hc0 : (0 : Int) ≤ (p : Int) + (k : Int) := by omega
          have hnb : b ≠ n := HW.out.1.apart (by omega) b (by simp [mem_ownB, Value.ownBlock])
          have xb' : wr.cell? ⟨b, off + ((p : Int) + (k : Int)).toNat, none⟩ = some (.int .u8 x.toNat) := by
            rw [show ((p : Int) + (k : Int)).toNat = p + k by omega]; exact xb
          have hx256 : x.toNat < 256 := x.toNat_lt
          have hsh : (bs.length : Int) ≤ 140737488355328 := by have := HW.out.1.short; omega
          have kk : ∀ m, Keeps [n] w (wr.drewN m) := fun m => HW.out.2.2.2.2.trans (G := []) (by exact Keeps.K) (fun _ _ h => by cases h)
          have KK := hid kk
          clear kk
          by_cases hA : k = 9 ∧ 1 < x.toNat
          · obtain ⟨rfl, hA2⟩ := hA
            have a2 : (1 : Int) < (x.toNat : Int) := by omega
            have xb9 : wr.cell? ⟨b, off + ((p : Int) + 9).toNat, none⟩ = some (.int .u8 x.toNat) := xb'
            have hp9 : (p : Int) + 9 < (bs.length : Int) := hp'
            have hc9 : (0 : Int) ≤ (p : Int) + 9 := by omega
            have hA3 := hid hA2
            clear hlt' hA2 xb' hp' hc0
            go_wp2_with fail
            go_quiet (fail)
            go_wp2_with fail
            go_quiet (fail)
            go_wp2_with fail
            skip
            go_ret
            have E : Hid (rdD bs p false = (0, p + (9 + 1), true)) := by
              show _ = _
              unfold rdD
              obtain ⟨f, hf⟩ : ∃ f, 10 - 9 = f + 1 := ⟨9 - 9, by omega⟩
              rw [HW.out.2.2.2.1, hf, rdGo_wrong HX.out (.inl ⟨rfl, hA3.out⟩)]
              rfl
            rw [E.out]
            exact ⟨rfl, ((HW.out.1.k (by exact Keeps.K)).moved (by omega) _ (by omega)).wrong, ((KK.out _).setCell (.inl (by simp)) _).setCell (.inl (by simp)) _⟩
          by_cases hB : 0 < k ∧ x.toNat = 0
          · have a1 : (0 : Int) < (k : Int) := by omega
            have a2 : (x.toNat : Int) = 0 := by omega
            have hB3 := hid hB
            clear hA hB
            go_wp2_with fail
            go_quiet (fail)
            go_wp2_with fail
            go_quiet (fail)
            go_wp2_with fail
            all_goals
              skip
              go_ret
              have E : Hid (rdD bs p false = (0, p + (k + 1), true)) := by
                show _ = _
                unfold rdD
                obtain ⟨f, hf⟩ : ∃ f, 10 - k = f + 1 := ⟨9 - k, by omega⟩
                rw [HW.out.2.2.2.1, hf, rdGo_wrong HX.out (.inr hB3.out)]
                rfl
              rw [E.out]
              exact ⟨rfl, ((HW.out.1.k (by exact Keeps.K)).moved (by omega) _ (by omega)).wrong, ((KK.out _).setCell (.inl (by simp)) _).setCell (.inl (by simp)) _⟩
          by_cases hC : x.toNat < 128
          · have a2 : (x.toNat : Int) < 128 := by omega
            have hA' := hid hA
            have hB' := hid hB
            have hC' := hid hC
            clear hA hB hC
            by_cases h9 : k = 9
            · subst h9
              have a3 : ¬ (1 : Int) < (x.toNat : Int) := by have := hA'.out; omega
              have a4 : (x.toNat : Int) ≠ 0 := by have := hB'.out; omega
              have a7 : ((x.toNat : Int) == 0) = false := by simp; have := hB'.out; omega
              have xb9 : wr.cell? ⟨b, off + ((p : Int) + 9).toNat, none⟩ = some (.int .u8 x.toNat) := xb'
              have hp9 : (p : Int) + 9 < (bs.length : Int) := hp'
              have hc9 : (0 : Int) ≤ (p : Int) + 9 := by omega
              clear hlt' xb' hp' hc0
              go_wp2_with fail
              go_quiet (fail)
              go_wp2_with fail
              go_quiet (fail)
              go_wp2_with fail
              all_goals
                go_ret
                have E : Hid (rdD bs p false = (unzig (u + x.toNat % 128 * 128 ^ 9), p + (9 + 1), false)) := by
                  show _ = _
                  unfold rdD
                  rw [HW.out.2.2.2.1, show 10 - 9 = 0 + 1 from rfl, rdGo_last HX.out (by have := hA'.out; simpa using this) (by have := hB'.out; omega) hC'.out]
                  rfl
                have S64 := step_64 (x := x.toNat) HW.out.2.2.1 (by omega) (by omega)
                have OS := add_step9 u x.toNat S64
                rw [E.out]
                first | rw [read_odd _ _ OS S64 (by assumption)] | rw [read_even _ _ OS S64 (by assumption)]
                exact ⟨rfl, (HW.out.1.k (by exact Keeps.K)).moved (by omega) _ (by omega), (KK.out _).setCell (.inl (by simp)) _⟩
            · by_cases h0 : k = 0
              · subst h0
                have xbz : wr.cell? ⟨b, off + p, none⟩ = some (.int .u8 x.toNat) := by simpa using xb
                have hpz : (p : Int) < (bs.length : Int) := by omega
                clear hlt' xb' hp' hc0
                go_wp2_with fail
                go_quiet (fail)
                go_wp2_with fail
                go_quiet (fail)
                go_wp2_with fail
                all_goals
                  go_ret
                  have E : Hid (rdD bs p false = (unzig (u + x.toNat % 128 * 128 ^ 0), p + (0 + 1), false)) := by
                    show _ = _
                    unfold rdD
                    rw [HW.out.2.2.2.1, show 10 - 0 = 9 + 1 from rfl, rdGo_last HX.out hA'.out hB'.out hC'.out]
                    rfl
                  have OS := add_step0 u x.toNat HW.out.2.2.1 hx256
                  have S64 := step_64 (x := x.toNat) HW.out.2.2.1 (by omega) (by omega)
                  rw [E.out]
                  first | rw [read_odd _ _ OS S64 (by assumption)] | rw [read_even _ _ OS S64 (by assumption)]
                  exact ⟨rfl, (HW.out.1.k (by exact Keeps.K)).moved (by omega) _ (by omega), (KK.out _).setCell (.inl (by simp)) _⟩
              · have a3 : (k : Int) ≠ 9 := by omega
                have a4 : (k == 9) = false := by simp; omega
                have a5 : (0 : Int) < (k : Int) := by omega
                have a6 : (x.toNat : Int) ≠ 0 := by have := hB'.out; omega
                have a7 : ((x.toNat : Int) == 0) = false := by simp; have := hB'.out; omega
                go_wp2_with fail
                go_quiet (fail)
                go_wp2_with fail
                go_quiet (fail)
                go_wp2_with fail
                all_goals
                  go_ret
                  have E : Hid (rdD bs p false = (unzig (u + x.toNat % 128 * 128 ^ k), p + (k + 1), false)) := by
                    show _ = _
                    unfold rdD
                    obtain ⟨f, hf⟩ : ∃ f, 10 - k = f + 1 := ⟨9 - k, by omega⟩
                    rw [HW.out.2.2.2.1, hf, rdGo_last HX.out hA'.out hB'.out hC'.out]
                    rfl
                  have OS := add_step u k x.toNat HW.out.2.2.1 (by omega) hx256 (by have := hA'.out; omega)
                  have S64 := step_64 (x := x.toNat) HW.out.2.2.1 (by omega) (by have := hA'.out; omega)
                  rw [E.out]
                  first | rw [read_odd _ _ OS S64 (by assumption)] | rw [read_even _ _ OS S64 (by assumption)]
                  exact ⟨rfl, (HW.out.1.k (by exact Keeps.K)).moved (by omega) _ (by omega), (KK.out _).setCell (.inl (by simp)) _⟩
          · have a2 : (128 : Int) ≤ (x.toNat : Int) := by omega
            have a3 : (k : Int) ≠ 9 := by omega
            have a4 : (k == 9) = false := by simp; omega
            have hA' := hid hA
            have hB' := hid hB
            have hC' := hid hC
            clear hA hB hC
            go_wp2_with fail
            go_quiet (fail)
            go_wp2_with fail
            go_quiet (fail)
            go_wp2_with fail
            all_goals
              refine ⟨⟨k + 1, u + x.toNat % 128 * 128 ^ k, by rw [add_step u k x.toNat HW.out.2.2.1 (by omega) hx256 (by omega)], by simp, by omega, ⟨?_, by simp, step_bound HW.out.2.2.1, ?_, ?_⟩⟩, by simp [intOf]; omega⟩
              · exact (HW.out.1.k (by exact Keeps.K)).moved (by omega) _ (by omega)
              · rw [HW.out.2.2.2.1]
                obtain ⟨f, hf⟩ : ∃ f, 10 - k = f + 1 := ⟨9 - k, by omega⟩
                rw [hf, rdGo_next HX.out hA'.out hB'.out hC'.out, show 10 - (k + 1) = f by omega]
                rfl
              · exact (KK.out _).setCell (.inl (by simp)) _
        · have hp' : (bs.length : Int) ≤ (p : Int) + (k : Int) := by omega
          go_wp2_with fail
          go_quiet (fail)
          go_wp2_with fail
          go_ret
          have E : Hid (rdD bs p false = (0, p + k, true)) := by
            show _ = _
            unfold rdD
            rw [HW.out.2.2.2.1, List.drop_of_length_le (by omega)]
            obtain ⟨f, hf⟩ : ∃ f, 10 - k = f + 1 := ⟨9 - k, by omega⟩
            rw [hf]
            rfl
          rw [E.out]
          exact ⟨rfl, (HW.out.1.k Keeps.K).wrong, by
            have kk : Keeps [n] w (wr.drewN nq) := HW.out.2.2.2.2.trans (G := []) (by exact Keeps.K) (fun _ _ h => by cases h)
            exact kk.setCell (.inl (by simp)) _⟩
      · go_wp2_with fail
        go_quiet (fail)
        go_wp2_with fail
        go_ret
        have k0 : k = 0 := by
          rcases Nat.eq_zero_or_pos k with h | h
          · exact h
          · exact absurd (HW.out.2.1 (by omega)) (by simp)
        subst k0
        exact ⟨rfl, (HW.out.1.k Keeps.K).wrong, by
          have kk : Keeps [n] w (wr.drewN nq) := HW.out.2.2.2.2.trans (G := []) (by exact Keeps.K) (fun _ _ h => by cases h)
          exact kk.setCell (.inl (by simp)) _⟩
    · have hge : (10 : Int) ≤ (k : Int) := by omega
      obtain rfl : bad = false := HW.out.2.1 (by omega)
      have k10 : k = 10 := by omega
      subst k10
      go_wp2_with fail
      go_ret
      have E : Hid (rdD bs p false = (0, p + 10, true)) := by
        show _ = _
        unfold rdD
        rw [HW.out.2.2.2.1]
        rfl
      rw [E.out]
      exact ⟨rfl, (HW.out.1.k (by exact Keeps.K)).wrong, by
        have kk := HW.out.2.2.2.2
        exact kk.setCell (.inl (by simp)) _⟩

end Go.Proofs.YtnjdepojmnniaaaGreatDoor
