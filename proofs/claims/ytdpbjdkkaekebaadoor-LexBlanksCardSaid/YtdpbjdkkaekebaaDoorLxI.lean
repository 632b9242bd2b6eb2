/- Formulas as tokens, by pieces: plain. -/
import Derived.Test.YtdpbjdkkaekebaaDoorLxH
namespace Go.Proofs.YtdpbjdkkaekebaaDoor
open Go

/-- k pieces of a text take p bytes. -/
def PAt (l : List UInt8) (k p : Nat) : Prop := k ≤ (pieces l).length ∧ PcsAt l ((pieces l).take k) p
theorem PAt.zero (l : List UInt8) : PAt l 0 0 := ⟨Nat.zero_le _, by simpa using PcsAt.zero l⟩
theorem PAt.le {l : List UInt8} {k p : Nat} (h : PAt l k p) : p ≤ l.length ∧ k ≤ p := by
  have h2 := h.2.2.1
  rw [List.length_take] at h2
  have := h.1
  exact ⟨h.2.1, by omega⟩
theorem PAt.lt {l : List UInt8} {k p : Nat} (h : PAt l k p) (hk : k < (pieces l).length) : p < l.length := by
  rcases Nat.lt_or_ge p l.length with hl | hl
  · exact hl
  · have := (h.2.end_ (by omega)).1
    have h2 := congrArg List.length this
    rw [List.length_take] at h2
    omega
theorem PAt.next {l : List UInt8} {k p : Nat} (h : PAt l k p) (hk : k < (pieces l).length) : (pieces l)[k]? = some ⟨p, wid (l.drop p), (Lib.decodeL (l.drop p)).1, badL (l.drop p)⟩ ∧ PAt l (k + 1) (p + wid (l.drop p)) := by
  have hlt := h.lt hk
  have hlen : ((pieces l).take k).length = k := by rw [List.length_take]; omega
  have hne : l.drop p ≠ [] := by simp; omega
  have hs := pcs_step (p := p) hne
  rw [List.length_drop] at hs
  have hx : (pieces l)[k]? = some ⟨p, wid (l.drop p), (Lib.decodeL (l.drop p)).1, badL (l.drop p)⟩ := by
    have h3 := h.2.2.2
    rw [hs] at h3
    rw [h3, List.getElem?_append_right (by rw [hlen]; exact Nat.le_refl _), hlen]
    simp [wid]
  refine ⟨hx, by omega, ?_⟩
  have hn := h.2.next hlt
  have ht : (pieces l).take (k + 1) = (pieces l).take k ++ [⟨p, wid (l.drop p), (Lib.decodeL (l.drop p)).1, badL (l.drop p)⟩] := by
    rw [List.take_add_one, hx]; rfl
  rw [ht]
  exact hn
theorem PAt.end_ {l : List UInt8} {k p : Nat} (h : PAt l k p) (hk : ¬ k < (pieces l).length) : p = l.length := by
  rcases Nat.lt_or_ge p l.length with hl | hl
  · exfalso
    have hne : l.drop p ≠ [] := by simp; omega
    have hs := pcs_step (p := p) hne
    rw [List.length_drop] at hs
    have h3 := congrArg List.length h.2.2.2
    rw [hs, List.length_append, List.length_cons, List.length_take] at h3
    omega
  · have := h.le; omega
theorem bad_cls {l : List UInt8} (h : badL l = true) : clsL l = 0 := cls_bad ((badL_iff l).1 h)

/-- Digits, one behind the other. -/
theorem decV_snoc (l : List UInt8) (c : UInt8) : decV (l ++ [c]) = decV l * 10 + (c.toNat - 48) := by
  unfold decV
  rw [List.foldl_append]
  rfl
theorem decV_go (l : List UInt8) : ∀ (u : Nat), l.foldl (fun u c => u * 10 + (c.toNat - 48)) u = u * 10 ^ l.length + decV l := by
  induction l with
  | nil => intro u; simp [decV]
  | cons c r ih =>
    intro u
    show r.foldl _ (u * 10 + (c.toNat - 48)) = _
    unfold decV
    show _ = u * 10 ^ (r.length + 1) + r.foldl _ (0 * 10 + (c.toNat - 48))
    rw [ih, ih (0 * 10 + (c.toNat - 48)), Nat.pow_succ, Nat.zero_mul, Nat.zero_add, Nat.add_mul, Nat.mul_assoc u 10, Nat.mul_comm 10 (10 ^ r.length)]
    omega
theorem decV_le (l r : List UInt8) : decV l ≤ decV (l ++ r) := by
  have : decV (l ++ r) = decV l * 10 ^ r.length + decV r := by
    show (l ++ r).foldl _ 0 = _
    rw [List.foldl_append]
    exact decV_go r _
  rw [this]
  have h1 : 1 ≤ 10 ^ r.length := Nat.one_le_pow _ _ (by decide)
  have h2 := Nat.mul_le_mul_left (decV l) h1
  omega
theorem parseU_digits : ∀ (l : List UInt8) (u : Nat), (∀ c ∈ l, 48 ≤ c.toNat ∧ c.toNat ≤ 57) → u ≤ 18446744073709551615 →
    Lib.parseUintM 18446744073709551615 u l = (if l.foldl (fun u c => u * 10 + (c.toNat - 48)) u ≤ 18446744073709551615 then .ok (l.foldl (fun u c => u * 10 + (c.toNat - 48)) u) else .range)
  | [], u, _, hu => by
    show Lib.NumEnd.ok u = (if u ≤ 18446744073709551615 then Lib.NumEnd.ok u else .range)
    rw [if_pos hu]
  | c :: r, u, h, hu => by
    have hc := h c (by simp)
    have hr : ∀ c ∈ r, 48 ≤ c.toNat ∧ c.toNat ≤ 57 := fun x hx => h x (by simp [hx])
    unfold Lib.parseUintM
    rw [if_pos hc]
    show _ = (if r.foldl (fun u c => u * 10 + (c.toNat - 48)) (u * 10 + (c.toNat - 48)) ≤ 18446744073709551615 then (Lib.NumEnd.ok (r.foldl (fun u c => u * 10 + (c.toNat - 48)) (u * 10 + (c.toNat - 48))) : Lib.NumEnd Nat) else Lib.NumEnd.range)
    have hge : u * 10 + (c.toNat - 48) ≤ r.foldl (fun u c => u * 10 + (c.toNat - 48)) (u * 10 + (c.toNat - 48)) := by
      rw [decV_go]
      have h1 : 1 ≤ 10 ^ r.length := Nat.one_le_pow _ _ (by decide)
      have h2 := Nat.mul_le_mul_left (u * 10 + (c.toNat - 48)) h1
      omega
    by_cases h1 : 1844674407370955162 ≤ u
    · rw [if_pos h1, if_neg (by omega)]
    · rw [if_neg h1]
      by_cases h2 : 18446744073709551615 < u * 10 + (c.toNat - 48)
      · rw [if_pos h2, if_neg (by omega)]
      · rw [if_neg h2, parseU_digits r _ hr (by omega)]
/-- What ParseInt makes of digits. -/
theorem parse_digits {l : List UInt8} (hl : l ≠ []) (h : ∀ c ∈ l, 48 ≤ c.toNat ∧ c.toNat ≤ 57) : (decV l ≤ 9223372036854775807 → Lib.parseIntB 64 l = .ok (decV l : Int)) ∧ (¬ decV l ≤ 9223372036854775807 → ∀ n, Lib.parseIntB 64 l ≠ .ok n) := by
  rcases l with _ | ⟨c, r⟩
  · exact absurd rfl hl
  · have hc := h c (by simp)
    have hM : (2 ^ 64 - 1 : Nat) = 18446744073709551615 := by decide
    have hU : Lib.parseUintB 64 (c :: r) = (if decV (c :: r) ≤ 18446744073709551615 then .ok (decV (c :: r)) else .range) := by
      unfold Lib.parseUintB
      rw [if_neg (by simp), hM, parseU_digits (c :: r) 0 h (by omega)]
      rfl
    rw [Lib.parseIntB_plain 64 c r (by omega) (by omega), hU]
    refine ⟨fun hv => ?_, fun hv n hn => ?_⟩
    · rw [if_pos (by omega)]
      show (if 2 ^ (64 - 1) ≤ decV (c :: r) then _ else _) = _
      rw [if_neg (by omega)]
    · by_cases hv2 : decV (c :: r) ≤ 18446744073709551615
      · rw [if_pos hv2] at hn
        replace hn : (if 2 ^ (64 - 1) ≤ decV (c :: r) then (Lib.NumEnd.range : Lib.NumEnd Int) else .ok (decV (c :: r) : Int)) = .ok n := hn
        rw [if_pos (by omega)] at hn
        cases hn
      · rw [if_neg hv2] at hn
        cases hn
/-- A run of digits is digits. -/
theorem cls_two {l : List UInt8} (hl : l ≠ []) (h : clsL l = 2) : ∃ c t, l = c :: t ∧ 48 ≤ c.toNat ∧ c.toNat ≤ 57 ∧ wid l = 1 ∧ (Lib.decodeL l).1 = c.toNat := by
  have hr : 48 ≤ (Lib.decodeL l).1 ∧ (Lib.decodeL l).1 ≤ 57 := by
    unfold clsL clsR at h
    split at h
    · omega
    · split at h
      · omega
      · split at h
        · assumption
        · split at h <;> omega
  obtain ⟨t, ht⟩ := dec_head hl (c := (Lib.decodeL l).1) (by omega) rfl
  have hw := (dec34 hl (c := (Lib.decodeL l).1) (by omega) rfl).1
  have hn := ofNat_toNat (Lib.decodeL l).1 (by omega)
  exact ⟨_, t, ht, by omega, by omega, hw, hn.symm⟩
theorem run_digits : ∀ (n : Nat) (l : List UInt8), l.length ≤ n → ∀ c ∈ l.take (runL 2 2 l), 48 ≤ c.toNat ∧ c.toNat ≤ 57
  | 0, l, h, c, hc => by
    obtain rfl : l = [] := List.eq_nil_of_length_eq_zero (by omega)
    simp at hc
  | n + 1, l, h, c, hc => by
    by_cases hl : l = []
    · subst hl; simp at hc
    · by_cases h2 : clsL l = 2
      · obtain ⟨d, t, rfl, h3, h4, h5, _⟩ := cls_two hl h2
        rw [runL_in hl (.inl h2), h5, Nat.add_comm, List.take_succ_cons] at hc
        rcases List.mem_cons.1 hc with rfl | hc
        · exact ⟨h3, h4⟩
        · exact run_digits n t (by simpa using h) c hc
      · rw [runL_out (by simpa using h2)] at hc
        simp at hc

/-- Runes, written one behind the other, are so many pieces. -/
theorem pcs_len_p : ∀ (f p q : Nat) (l : List UInt8), (pcs f p l).length = (pcs f q l).length
  | 0, _, _, _ => rfl
  | f + 1, p, q, l => by
    unfold pcs
    split
    · rfl
    · rw [List.length_cons, List.length_cons, pcs_len_p f _ (q + (Lib.decodeL l).2)]
theorem runesL_cons {l : List UInt8} (hl : l ≠ []) : runesL l = 1 + runesL (l.drop (wid l)) := by
  show (pcs l.length 0 l).length = 1 + (pcs _ 0 _).length
  rw [pcs_step hl, List.length_cons, pcs_len_p _ _ 0]
  unfold wid
  omega
theorem runesL_enc {r : Nat} (hv : r < 55296 ∨ (57344 ≤ r ∧ r ≤ 1114111)) (t : List UInt8) : runesL (Lib.encodeRune (r : Int) ++ t) = 1 + runesL t := by
  have hd := decode_encode r hv t
  have hp : 1 ≤ (Lib.encodeRune (r : Int)).length := by
    have h := Lib.runeCells_le (r : Int)
    rw [Lib.runeCells_length] at h
    exact h.1
  have hne : Lib.encodeRune (r : Int) ++ t ≠ [] := by
    intro h
    have := congrArg List.length (List.append_eq_nil_iff.1 h).1
    rw [List.length_nil] at this
    omega
  rw [runesL_cons hne]
  unfold wid
  rw [hd, List.drop_left' rfl]
/-- Runes as bytes. -/
def encs (rs : List Nat) : List UInt8 := (rs.map fun (r : Nat) => Lib.encodeRune (r : Int)).flatten
theorem encs_snoc (rs : List Nat) (r : Nat) : encs (rs ++ [r]) = encs rs ++ Lib.encodeRune (r : Int) := by simp [encs]
theorem runesL_encs : ∀ (rs : List Nat), (∀ r ∈ rs, r < 55296 ∨ (57344 ≤ r ∧ r ≤ 1114111)) → runesL (encs rs) = rs.length
  | [], _ => rfl
  | r :: rs, h => by
    show runesL (Lib.encodeRune (r : Int) ++ encs rs) = _
    rw [runesL_enc (h r (by simp)), runesL_encs rs (fun x hx => h x (by simp [hx])), List.length_cons]
    omega

end Go.Proofs.YtdpbjdkkaekebaaDoor
