/- A shown value, read again: plain. -/
import Derived.Test.YtdpbjdkkaekebaaDoorRfJ
import Derived.Lib.ParseIntBCases
namespace Go.Proofs.YtdpbjdkkaekebaaDoor
open Go Go.RowKit

theorem parseU_dec (m : Nat) : ∀ (r : List UInt8), m ≤ 18446744073709551615 → Lib.parseUintM 18446744073709551615 0 (Lib.decDigits m ++ r) = Lib.parseUintM 18446744073709551615 m r := by
  induction m using Nat.strongRecOn with
  | _ m ih =>
    intro r hm
    by_cases h : m < 10
    · rw [dec_small m h]
      show Lib.parseUintM _ 0 (UInt8.ofNat (48 + m) :: r) = _
      conv => lhs; unfold Lib.parseUintM
      rw [dig_toNat m h, if_pos (by omega), if_neg (by omega), if_neg (by omega)]
      congr 1
      omega
    · rw [dec_step m (by omega), List.append_assoc, ih (m / 10) (by omega) _ (by omega)]
      show Lib.parseUintM _ (m / 10) (UInt8.ofNat (48 + m % 10) :: r) = _
      conv => lhs; unfold Lib.parseUintM
      rw [dig_toNat _ (by omega), if_pos (by omega), if_neg (by omega), if_neg (by omega)]
      congr 1
      omega
theorem parseUB_dec (m : Nat) (hm : m ≤ 18446744073709551615) : Lib.parseUintB 64 (Lib.decDigits m) = .ok m := by
  unfold Lib.parseUintB
  rw [if_neg (decDigits_ne m), show 2 ^ 64 - 1 = 18446744073709551615 by decide]
  have := parseU_dec m [] hm
  rw [List.append_nil] at this
  rw [this]
  rfl
theorem parse_itoa (n : Int) (hn : I64 n) : Lib.parseIntB 64 (Lib.itoa n) = .ok n := by
  obtain ⟨h0, h1⟩ := hn
  unfold Lib.itoa
  by_cases hm : n < 0
  · obtain ⟨m, rfl⟩ : ∃ m : Nat, n = -(m : Int) := ⟨n.natAbs, by omega⟩
    rw [if_pos hm, Int.natAbs_neg, Int.natAbs_natCast, Lib.parseIntB_minus, parseUB_dec m (by omega)]
    show (if 2 ^ (64 - 1) < m then _ else _) = _
    rw [if_neg (by omega)]
  · obtain ⟨m, rfl⟩ : ∃ m : Nat, n = (m : Int) := ⟨n.toNat, by omega⟩
    rw [if_neg hm, Int.toNat_natCast]
    have hd := decDigits_head m
    rcases e : Lib.decDigits m with _ | ⟨c, r⟩
    · exact absurd e (decDigits_ne m)
    · have hc := hd c (by rw [e]; rfl)
      rw [Lib.parseIntB_plain 64 c r (by omega) (by omega), ← e, parseUB_dec m (by omega)]
      show (if 2 ^ (64 - 1) ≤ m then _ else _) = _
      rw [if_neg (by omega)]
theorem parse_64 {l : List UInt8} {v : Int} (h : Lib.parseIntB 64 l = .ok v) : I64 v := by
  rcases l with _ | ⟨c, r⟩
  · cases h
  · by_cases h43 : c.toNat = 43
    · obtain rfl : c = 43 := UInt8.toNat_inj.1 h43
      rw [Lib.parseIntB_plus] at h
      rcases e : Lib.parseUintB 64 r with u | _ | _ <;> rw [e] at h
      · replace h : (if 2 ^ (64 - 1) ≤ u then (Lib.NumEnd.range : Lib.NumEnd Int) else .ok (u : Int)) = .ok v := h
        split at h
        · cases h
        · injection h with h
          have e2 : (2 : Nat) ^ (64 - 1) = 9223372036854775808 := by decide
          exact ⟨by omega, by omega⟩
      · cases h
      · cases h
    · by_cases h45 : c.toNat = 45
      · obtain rfl : c = 45 := UInt8.toNat_inj.1 h45
        rw [Lib.parseIntB_minus] at h
        rcases e : Lib.parseUintB 64 r with u | _ | _ <;> rw [e] at h
        · replace h : (if 2 ^ (64 - 1) < u then (Lib.NumEnd.range : Lib.NumEnd Int) else .ok (-(u : Int))) = .ok v := h
          split at h
          · cases h
          · injection h with h
            have e2 : (2 : Nat) ^ (64 - 1) = 9223372036854775808 := by decide
            exact ⟨by omega, by omega⟩
        · cases h
        · cases h
      · rw [Lib.parseIntB_plain 64 c r h43 h45] at h
        rcases e : Lib.parseUintB 64 (c :: r) with u | _ | _ <;> rw [e] at h
        · replace h : (if 2 ^ (64 - 1) ≤ u then (Lib.NumEnd.range : Lib.NumEnd Int) else .ok (u : Int)) = .ok v := h
          split at h
          · cases h
          · injection h with h
            have e2 : (2 : Nat) ^ (64 - 1) = 9223372036854775808 := by decide
            exact ⟨by omega, by omega⟩
        · cases h
        · cases h

/-- What a reading of a text as a value must give. -/
def ReadsAs (l : List UInt8) (v : ValD) (ok : Bool) : Prop :=
  (ok = true → checkD v = true ∧ showL v = l ∧ I64 v.n) ∧ (ok = false → v = ⟨0, 0, ⟨#[]⟩⟩ ∧ ∀ u : ValD, checkD u = true → I64 u.n → showL u ≠ l)
theorem readsAs_yes {l : List UInt8} {v : ValD} (h1 : checkD v = true) (h2 : showL v = l) (h3 : I64 v.n) : ReadsAs l v true := ⟨fun _ => ⟨h1, h2, h3⟩, fun h => by cases h⟩
theorem readsAs_no {l : List UInt8} (h : ∀ u : ValD, checkD u = true → I64 u.n → showL u ≠ l) : ReadsAs l ⟨0, 0, ⟨#[]⟩⟩ false := ⟨fun h => by (cases h), fun _ => ⟨rfl, h⟩⟩
/-- Two readings of one text agree. -/
theorem ReadsAs.same {l : List UInt8} {v u : ValD} {a b : Bool} (h : ReadsAs l v a) (g : ReadsAs l u b) : v = u ∧ a = b := by
  rcases a with _ | _ <;> rcases b with _ | _
  · exact ⟨by rw [(h.2 rfl).1, (g.2 rfl).1], rfl⟩
  · obtain ⟨g1, g2, g3⟩ := g.1 rfl
    exact absurd g2 ((h.2 rfl).2 u g1 g3)
  · obtain ⟨g1, g2, g3⟩ := h.1 rfl
    exact absurd g2 ((g.2 rfl).2 v g1 g3)
  · obtain ⟨g1, g2, g3⟩ := h.1 rfl
    obtain ⟨k1, k2, k3⟩ := g.1 rfl
    exact ⟨showL_inj g1 k1 (g2.trans k2.symm), rfl⟩
theorem ReadsAs.shown {v u : ValD} {ok : Bool} (hc : checkD v = true) (hn : I64 v.n) (h : ReadsAs (showL v) u ok) : u = v ∧ ok = true := by
  rcases ok with _ | _
  · exact absurd rfl ((h.2 rfl).2 v hc hn)
  · obtain ⟨g1, g2, g3⟩ := h.1 rfl
    exact ⟨showL_inj g1 hc g2, rfl⟩
/-- No value of another kind is shown so. -/
theorem kind_of {l : List UInt8} {u : ValD} (hc : checkD u = true) (h : showL u = l) : u.kind = tagL l := by rw [← h, tag_show hc]
theorem show_num {l : List UInt8} {u : ValD} (hc : checkD u = true) (h : showL u = l) (ht : tagL l = 1) : u = ⟨1, u.n, ⟨#[]⟩⟩ ∧ l = Lib.itoa u.n := by
  have hk := (kind_of hc h).trans ht
  obtain ⟨k, n, s⟩ := u
  dsimp only at hk
  subst hk
  rcases checkD_cases hc with A | A | A | A | A
  · exact absurd A.1 (by simp)
  · dsimp only at A
    refine ⟨by rw [A.2], ?_⟩
    rw [← h, showL_int]
  · exact absurd A.1 (by simp)
  · exact absurd A.1 (by simp)
  · exact absurd A.1 (by simp)
theorem show_bad {l : List UInt8} {u : ValD} (hc : checkD u = true) (h : showL u = l) (ht : tagL l = 4) : u = ⟨4, u.n, ⟨#[]⟩⟩ ∧ l = 35 :: Lib.itoa u.n := by
  have hk := (kind_of hc h).trans ht
  obtain ⟨k, n, s⟩ := u
  dsimp only at hk
  subst hk
  rcases checkD_cases hc with A | A | A | A | A
  · exact absurd A.1 (by simp)
  · exact absurd A.1 (by simp)
  · exact absurd A.1 (by simp)
  · exact absurd A.1 (by simp)
  · dsimp only at A
    refine ⟨by rw [A.2], ?_⟩
    rw [← h, showL_bad]
theorem show_text {l : List UInt8} {u : ValD} (hc : checkD u = true) (h : showL u = l) (ht : tagL l = 3) : u = ⟨3, 0, u.s⟩ ∧ l = quoteL u.s.data.toList ∧ Lib.validD u.s.data.toList = true := by
  have hk := (kind_of hc h).trans ht
  obtain ⟨k, n, s⟩ := u
  dsimp only at hk
  subst hk
  rcases checkD_cases hc with A | A | A | A | A
  · exact absurd A.1 (by simp)
  · exact absurd A.1 (by simp)
  · exact absurd A.1 (by simp)
  · dsimp only at A
    refine ⟨by rw [A.2.1], ?_, A.2.2⟩
    rw [← h, showL_text]
  · exact absurd A.1 (by simp)

end Go.Proofs.YtdpbjdkkaekebaaDoor
