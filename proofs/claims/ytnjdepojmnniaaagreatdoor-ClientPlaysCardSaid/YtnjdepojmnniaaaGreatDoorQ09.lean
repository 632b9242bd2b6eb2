/- Joined of LxH, LxI, LxJ. -/
import Derived.Test.YtnjdepojmnniaaaGreatDoorQ08

set_option linter.unusedSimpArgs false
set_option linter.unusedVariables false

/- Formulas as tokens: two texts joined, places shifted, cuts: plain. -/
namespace Go.Proofs.YtnjdepojmnniaaaGreatDoor
open Go

theorem bad_high {l : List UInt8} (h : badP l) {c : UInt8} (hc : l.head? = some c) : 128 ≤ c.toNat := by
  rcases Nat.lt_or_ge c.toNat 128 with hlt | hge
  · have := head_dec hc hlt
    have h1 := h.1
    omega
  · exact hge
theorem bad_none {l : List UInt8} (h : badP l) : oneD l = none := by
  have hc := cls_bad h
  unfold oneD
  rw [if_neg (by omega), if_neg (by omega)]
  have h34 : l.head? ≠ some 34 := fun h34 => by have := bad_high h h34; revert this; decide
  rw [if_neg h34, if_pos]
  rcases l with _ | ⟨c, t⟩
  · rfl
  · have hb := bad_high h (c := c) rfl
    rw [signL_cons, if_neg, if_neg]
    · intro hm
      have : ∀ c ∈ signs, c.toNat < 128 := by decide
      have := this c (by simpa using hm)
      omega
    · rintro ⟨rfl | rfl | rfl, _⟩ <;> (revert hb; decide)
theorem ok_not_bad {l : List UInt8} {p : Nat} {ts : List TokD} (hl : l ≠ []) (h : lexL l p = .ok ts) : ¬ badP l := fun hb => by
  rw [lexL_bad hl (by rw [cls_bad hb]; decide) (bad_none hb)] at h
  cases h
theorem run_stop (a b : Nat) : ∀ (n : Nat) (l : List UInt8), l.length ≤ n → l.drop (runL a b l) = [] ∨ ¬ (clsL (l.drop (runL a b l)) = a ∨ clsL (l.drop (runL a b l)) = b)
  | 0, l, h => by
    obtain rfl : l = [] := List.eq_nil_of_length_eq_zero (by omega)
    exact .inl (by simp)
  | n + 1, l, h => by
    by_cases hl : l = []
    · subst hl; exact .inl (by simp)
    · by_cases hc : clsL l = a ∨ clsL l = b
      · rw [runL_in hl hc, ← List.drop_drop]
        have hp := wid_pos l
        have hpos := List.length_pos_iff.2 hl
        exact run_stop a b n (l.drop (wid l)) (by rw [List.length_drop]; omega)
      · rw [runL_out hc, List.drop_zero]
        exact .inr hc
/-- What stands behind a token fits it. -/
theorem fits_self {l : List UInt8} {t : TokD} {k : Nat} (h : oneD l = some (t, k)) : Fits l k (l.drop k) := by
  refine ⟨fun c2 => ?_, fun c1 => ?_, fun h => h⟩
  · unfold oneD at h
    rw [if_pos c2] at h
    split at h
    · injection h with h
      injection h with _ h
      rw [← h]
      exact (run_stop 2 2 _ l (Nat.le_refl _)).imp id (fun h => by simpa using h)
    · cases h
  · unfold oneD at h
    rw [if_neg (by omega), if_pos c1] at h
    split at h
    · injection h with h
      injection h with _ h
      rw [← h]
      refine (run_stop 1 2 _ l (Nat.le_refl _)).imp id (fun h => ?_)
      exact ⟨fun h' => h (.inl h'), fun h' => h (.inr h')⟩
    · cases h
theorem fits_app {l T : List UInt8} {k : Nat} (h : Fits l k T) (hT : T ≠ [] → ¬ badP T) (b : List UInt8) : Fits l k (T ++ 32 :: b) := by
  by_cases hn : T = []
  · subst hn
    exact fits_space ((Blank.byte (.inl rfl) b 0).2 (by simp))
  · have hc : clsL (T ++ 32 :: b) = clsL T := by
      have hw := wid_le hn
      have e : T ++ 32 :: b = T.take (wid T) ++ (T.drop (wid T) ++ 32 :: b) := by rw [← List.append_assoc, List.take_append_drop]
      rw [e, cls_swap hn (hT hn)]
    refine ⟨fun c2 => ?_, fun c1 => ?_, fun h61 => h.sign ?_⟩
    · rcases h.num c2 with h | h
      · exact absurd h hn
      · exact .inr (by rw [hc]; exact h)
    · rcases h.name c1 with h | h
      · exact absurd h hn
      · exact .inr (by rw [hc]; exact h)
    · rcases T with _ | ⟨c, t⟩
      · exact absurd rfl hn
      · exact h61
theorem lex_ne {l : List UInt8} {p : Nat} {ts : List TokD} (h : lexL l p = .ok ts) : ts ≠ [] := by
  intro e
  subst e
  have := lex_segs (List.replicate p 0 ++ l) _ p [] (Nat.le_refl _) (by simp) (by rw [List.drop_left' (by simp)]; exact h)
  obtain ⟨t, r, h1, _⟩ := this
  cases h1
theorem lex_join (b : List UInt8) : ∀ (n : Nat) (a : List UInt8) (p : Nat) (ts : List TokD), a.length ≤ n → lexL a p = .ok ts → lexL (a ++ 32 :: b) p = match lexL b (p + a.length + 1) with
    | .error q => .error q
    | .ok us => .ok (ts.dropLast ++ us)
  | n, a, p, ts, hn, h => by
    by_cases hl : a = []
    · subst hl
      rw [lexL_nil] at h
      injection h with h
      subst h
      have := (Blank.byte (.inl rfl) b p).1
      show lexL ([32] ++ b) p = _
      rw [this]
      show lexL b (p + 1) = match lexL b (p + 0 + 1) with | .error q => .error q | .ok us => .ok ([] ++ us)
      rcases lexL b (p + 1) with q | us <;> rfl
    · have hpos := List.length_pos_iff.2 hl
      rcases n with _ | n
      · omega
      have hnb := ok_not_bad hl h
      have hw := wid_le hl
      have hwp := wid_pos a
      by_cases hc : clsL a = 3
      · rw [lexL_space hl hc] at h
        have ih := lex_join b n (a.drop (wid a)) (p + wid a) ts (by rw [List.length_drop]; omega) h
        have e : a ++ 32 :: b = a.take (wid a) ++ (a.drop (wid a) ++ 32 :: b) := by rw [← List.append_assoc, List.take_append_drop]
        have hB := (Blank.piece hl hc (a.drop (wid a) ++ 32 :: b) p).1
        have hlen : (a.take (wid a)).length = wid a := by rw [List.length_take]; omega
        rw [hlen] at hB
        rw [e, hB, ih, List.length_drop, show p + wid a + (a.length - wid a) + 1 = p + a.length + 1 by omega]
      · rcases ho : oneD a with _ | ⟨t0, k⟩
        · rw [lexL_bad hl hc ho] at h; cases h
        · have hk := oneD_pos hl ho
          rw [lexL_tok hl hc ho] at h
          rcases hr : lexL (a.drop k) (p + k) with q | us
          · rw [hr] at h; cases h
          · rw [hr] at h
            dsimp only at h
            injection h with h
            subst h
            have ih := lex_join b n (a.drop k) (p + k) us (by rw [List.length_drop]; omega) hr
            have hf := fits_app (fits_self ho) (fun hT => ok_not_bad hT hr) b
            obtain ⟨s1, s2⟩ := one_swap hl ho hc hf
            have e : a ++ 32 :: b = a.take k ++ (a.drop k ++ 32 :: b) := by rw [← List.append_assoc, List.take_append_drop]
            have hlen : (a.take k).length = k := by rw [List.length_take]; omega
            have hne : a.take k ++ (a.drop k ++ 32 :: b) ≠ [] := by rw [← e]; simp
            rw [e, lexL_tok hne (by rw [s2]; exact hc) s1, List.drop_left' hlen, ih, List.length_drop, show p + k + (a.length - k) + 1 = p + a.length + 1 by omega]
            have hus := lex_ne hr
            rcases lexL b (p + a.length + 1) with q | vs
            · rfl
            · dsimp only
              rw [List.dropLast_cons_of_ne_nil hus]
              rfl
/-- The places do not matter. -/
def shiftR (d : Nat) : Except Nat (List TokD) → Except Nat (List TokD)
  | .error q => .error (q + d)
  | .ok ts => .ok (ts.map fun t => { t with at_ := t.at_ + d })
theorem lex_shift (d : Nat) : ∀ (n : Nat) (l : List UInt8) (p : Nat), l.length ≤ n → lexL l (p + d) = shiftR d (lexL l p)
  | n, l, p, hn => by
    by_cases hl : l = []
    · subst hl
      rw [lexL_nil, lexL_nil]; rfl
    · have hpos := List.length_pos_iff.2 hl
      have hwp := wid_pos l
      rcases n with _ | n
      · omega
      by_cases hc : clsL l = 3
      · rw [lexL_space hl hc, lexL_space hl hc, ← lex_shift d n (l.drop (wid l)) (p + wid l) (by rw [List.length_drop]; omega)]
        rw [show p + d + wid l = p + wid l + d by omega]
      · rcases ho : oneD l with _ | ⟨t0, k⟩
        · rw [lexL_bad hl hc ho, lexL_bad hl hc ho]; rfl
        · have hk := oneD_pos hl ho
          rw [lexL_tok hl hc ho, lexL_tok hl hc ho, show p + d + k = p + k + d by omega, lex_shift d n (l.drop k) (p + k) (by rw [List.length_drop]; omega)]
          rcases lexL (l.drop k) (p + k) with q | us <;> rfl
/-- What a law of cuts asks of tokens that stand one behind the other. -/
theorem segs_cut {L : List UInt8} : ∀ (ts : List TokD), Segs L ts → ∀ (i : Nat) (t u : TokD), ts[i]? = some t → ts[i + 1]? = some u → t.at_ < u.at_ ∧ u.at_ ≤ L.length ∧ t.kind ≠ 0 ∧ ((t.kind = 3 ∨ t.kind = 4) → t.s.length ≤ u.at_ - t.at_ ∧ (L.drop t.at_).take t.s.length = t.s)
  | [], h, _, _, _, _, _ => h.elim
  | [_], _, i, t, u, h1, h2 => by simp at h2
  | t :: u :: r, h, 0, t', u', h1, h2 => by
    obtain ⟨⟨t0, k, ho, ht, hl, hc, g1, g2, hW⟩, hS⟩ := h
    have hk := oneD_pos hl ho
    obtain ⟨e1, e2⟩ := one_text hl ho
    rw [List.length_drop] at hk
    have h1' : t = t' := by simpa using h1
    have h2' : u = u' := by simpa using h2
    subst h1' h2'
    have hkd : t.kind = t0.kind := by rw [ht]
    have hsd : t.s = t0.s := by rw [ht]
    refine ⟨by omega, g2, by rw [hkd]; exact e1, fun hk34 => ?_⟩
    rw [hkd] at hk34
    have e3 := e2 hk34
    rw [hsd, e3, List.length_take, List.length_drop]
    refine ⟨by omega, ?_⟩
    congr 1
    omega
  | t :: u :: r, h, i + 1, t', u', h1, h2 => segs_cut (u :: r) h.2 i t' u' (by simpa using h1) (by simpa using h2)
theorem segs_last {L : List UInt8} : ∀ (ts : List TokD), Segs L ts → ts.getLast? = some ⟨0, [], 0, L.length⟩
  | [], h => h.elim
  | [t], h => by rw [show t = _ from h]; rfl
  | t :: u :: r, h => by
    have := segs_last (u :: r) h.2
    rw [List.getLast?_cons_cons]
    exact this

end Go.Proofs.YtnjdepojmnniaaaGreatDoor

/- Formulas as tokens, by pieces: plain. -/
namespace Go.Proofs.YtnjdepojmnniaaaGreatDoor
open Go

/-- k pieces of a text take p bytes. -/
def PAt (l : List UInt8) (k p : Nat) : Prop := k ≤ (pieces l).length ∧ PcsAt l ((pieces l).take k) p
theorem PAt.zero (l : List UInt8) : PAt l 0 0 := ⟨Nat.zero_le _, by simpa using PcsAt.zero l⟩
theorem PAt.le {l : List UInt8} {k p : Nat} (h : PAt l k p) : p ≤ l.length ∧ k ≤ p := by
  have h2 := h.2.2.1
  rw [List.length_take] at h2
  have := h.1
  exact ⟨h.2.1, by omega⟩
theorem PAt.lt {l : List UInt8} {k p : Nat} (h : PAt l k p) (hk : k < (pieces l).length) : p < l.length := by
  rcases Nat.lt_or_ge p l.length with hl | hl
  · exact hl
  · have := (h.2.end_ (by omega)).1
    have h2 := congrArg List.length this
    rw [List.length_take] at h2
    omega
theorem PAt.next {l : List UInt8} {k p : Nat} (h : PAt l k p) (hk : k < (pieces l).length) : (pieces l)[k]? = some ⟨p, wid (l.drop p), (Lib.decodeL (l.drop p)).1, badL (l.drop p)⟩ ∧ PAt l (k + 1) (p + wid (l.drop p)) := by
  have hlt := h.lt hk
  have hlen : ((pieces l).take k).length = k := by rw [List.length_take]; omega
  have hne : l.drop p ≠ [] := by simp; omega
  have hs := pcs_step (p := p) hne
  rw [List.length_drop] at hs
  have hx : (pieces l)[k]? = some ⟨p, wid (l.drop p), (Lib.decodeL (l.drop p)).1, badL (l.drop p)⟩ := by
    have h3 := h.2.2.2
    rw [hs] at h3
    rw [h3, List.getElem?_append_right (by rw [hlen]; exact Nat.le_refl _), hlen]
    simp [wid]
  refine ⟨hx, by omega, ?_⟩
  have hn := h.2.next hlt
  have ht : (pieces l).take (k + 1) = (pieces l).take k ++ [⟨p, wid (l.drop p), (Lib.decodeL (l.drop p)).1, badL (l.drop p)⟩] := by
    rw [List.take_add_one, hx]; rfl
  rw [ht]
  exact hn
theorem PAt.end_ {l : List UInt8} {k p : Nat} (h : PAt l k p) (hk : ¬ k < (pieces l).length) : p = l.length := by
  rcases Nat.lt_or_ge p l.length with hl | hl
  · exfalso
    have hne : l.drop p ≠ [] := by simp; omega
    have hs := pcs_step (p := p) hne
    rw [List.length_drop] at hs
    have h3 := congrArg List.length h.2.2.2
    rw [hs, List.length_append, List.length_cons, List.length_take] at h3
    omega
  · have := h.le; omega
theorem bad_cls {l : List UInt8} (h : badL l = true) : clsL l = 0 := cls_bad ((badL_iff l).1 h)

/-- Digits, one behind the other. -/
theorem decV_snoc (l : List UInt8) (c : UInt8) : decV (l ++ [c]) = decV l * 10 + (c.toNat - 48) := by
  unfold decV
  rw [List.foldl_append]
  rfl
theorem decV_go (l : List UInt8) : ∀ (u : Nat), l.foldl (fun u c => u * 10 + (c.toNat - 48)) u = u * 10 ^ l.length + decV l := by
  induction l with
  | nil => intro u; simp [decV]
  | cons c r ih =>
    intro u
    show r.foldl _ (u * 10 + (c.toNat - 48)) = _
    unfold decV
    show _ = u * 10 ^ (r.length + 1) + r.foldl _ (0 * 10 + (c.toNat - 48))
    rw [ih, ih (0 * 10 + (c.toNat - 48)), Nat.pow_succ, Nat.zero_mul, Nat.zero_add, Nat.add_mul, Nat.mul_assoc u 10, Nat.mul_comm 10 (10 ^ r.length)]
    omega
theorem decV_le (l r : List UInt8) : decV l ≤ decV (l ++ r) := by
  have : decV (l ++ r) = decV l * 10 ^ r.length + decV r := by
    show (l ++ r).foldl _ 0 = _
    rw [List.foldl_append]
    exact decV_go r _
  rw [this]
  have h1 : 1 ≤ 10 ^ r.length := Nat.one_le_pow _ _ (by decide)
  have h2 := Nat.mul_le_mul_left (decV l) h1
  omega
theorem parseU_digits : ∀ (l : List UInt8) (u : Nat), (∀ c ∈ l, 48 ≤ c.toNat ∧ c.toNat ≤ 57) → u ≤ 18446744073709551615 →
    Lib.parseUintM 18446744073709551615 u l = (if l.foldl (fun u c => u * 10 + (c.toNat - 48)) u ≤ 18446744073709551615 then .ok (l.foldl (fun u c => u * 10 + (c.toNat - 48)) u) else .range)
  | [], u, _, hu => by
    show Lib.NumEnd.ok u = (if u ≤ 18446744073709551615 then Lib.NumEnd.ok u else .range)
    rw [if_pos hu]
  | c :: r, u, h, hu => by
    have hc := h c (by simp)
    have hr : ∀ c ∈ r, 48 ≤ c.toNat ∧ c.toNat ≤ 57 := fun x hx => h x (by simp [hx])
    unfold Lib.parseUintM
    rw [if_pos hc]
    show _ = (if r.foldl (fun u c => u * 10 + (c.toNat - 48)) (u * 10 + (c.toNat - 48)) ≤ 18446744073709551615 then (Lib.NumEnd.ok (r.foldl (fun u c => u * 10 + (c.toNat - 48)) (u * 10 + (c.toNat - 48))) : Lib.NumEnd Nat) else Lib.NumEnd.range)
    have hge : u * 10 + (c.toNat - 48) ≤ r.foldl (fun u c => u * 10 + (c.toNat - 48)) (u * 10 + (c.toNat - 48)) := by
      rw [decV_go]
      have h1 : 1 ≤ 10 ^ r.length := Nat.one_le_pow _ _ (by decide)
      have h2 := Nat.mul_le_mul_left (u * 10 + (c.toNat - 48)) h1
      omega
    by_cases h1 : 1844674407370955162 ≤ u
    · rw [if_pos h1, if_neg (by omega)]
    · rw [if_neg h1]
      by_cases h2 : 18446744073709551615 < u * 10 + (c.toNat - 48)
      · rw [if_pos h2, if_neg (by omega)]
      · rw [if_neg h2, parseU_digits r _ hr (by omega)]
/-- What ParseInt makes of digits. -/
theorem parse_digits {l : List UInt8} (hl : l ≠ []) (h : ∀ c ∈ l, 48 ≤ c.toNat ∧ c.toNat ≤ 57) : (decV l ≤ 9223372036854775807 → Lib.parseIntB 64 l = .ok (decV l : Int)) ∧ (¬ decV l ≤ 9223372036854775807 → ∀ n, Lib.parseIntB 64 l ≠ .ok n) := by
  rcases l with _ | ⟨c, r⟩
  · exact absurd rfl hl
  · have hc := h c (by simp)
    have hM : (2 ^ 64 - 1 : Nat) = 18446744073709551615 := by decide
    have hU : Lib.parseUintB 64 (c :: r) = (if decV (c :: r) ≤ 18446744073709551615 then .ok (decV (c :: r)) else .range) := by
      unfold Lib.parseUintB
      rw [if_neg (by simp), hM, parseU_digits (c :: r) 0 h (by omega)]
      rfl
    rw [Lib.parseIntB_plain 64 c r (by omega) (by omega), hU]
    refine ⟨fun hv => ?_, fun hv n hn => ?_⟩
    · rw [if_pos (by omega)]
      show (if 2 ^ (64 - 1) ≤ decV (c :: r) then _ else _) = _
      rw [if_neg (by omega)]
    · by_cases hv2 : decV (c :: r) ≤ 18446744073709551615
      · rw [if_pos hv2] at hn
        replace hn : (if 2 ^ (64 - 1) ≤ decV (c :: r) then (Lib.NumEnd.range : Lib.NumEnd Int) else .ok (decV (c :: r) : Int)) = .ok n := hn
        rw [if_pos (by omega)] at hn
        cases hn
      · rw [if_neg hv2] at hn
        cases hn
/-- A run of digits is digits. -/
theorem cls_two {l : List UInt8} (hl : l ≠ []) (h : clsL l = 2) : ∃ c t, l = c :: t ∧ 48 ≤ c.toNat ∧ c.toNat ≤ 57 ∧ wid l = 1 ∧ (Lib.decodeL l).1 = c.toNat := by
  have hr : 48 ≤ (Lib.decodeL l).1 ∧ (Lib.decodeL l).1 ≤ 57 := by
    unfold clsL clsR at h
    split at h
    · omega
    · split at h
      · omega
      · split at h
        · assumption
        · split at h <;> omega
  obtain ⟨t, ht⟩ := dec_head hl (c := (Lib.decodeL l).1) (by omega) rfl
  have hw := (dec34 hl (c := (Lib.decodeL l).1) (by omega) rfl).1
  have hn := ofNat_toNat (Lib.decodeL l).1 (by omega)
  exact ⟨_, t, ht, by omega, by omega, hw, hn.symm⟩
theorem run_digits : ∀ (n : Nat) (l : List UInt8), l.length ≤ n → ∀ c ∈ l.take (runL 2 2 l), 48 ≤ c.toNat ∧ c.toNat ≤ 57
  | 0, l, h, c, hc => by
    obtain rfl : l = [] := List.eq_nil_of_length_eq_zero (by omega)
    simp at hc
  | n + 1, l, h, c, hc => by
    by_cases hl : l = []
    · subst hl; simp at hc
    · by_cases h2 : clsL l = 2
      · obtain ⟨d, t, rfl, h3, h4, h5, _⟩ := cls_two hl h2
        rw [runL_in hl (.inl h2), h5, Nat.add_comm, List.take_succ_cons] at hc
        rcases List.mem_cons.1 hc with rfl | hc
        · exact ⟨h3, h4⟩
        · exact run_digits n t (by simpa using h) c hc
      · rw [runL_out (by simpa using h2)] at hc
        simp at hc

/-- Runes, written one behind the other, are so many pieces. -/
theorem pcs_len_p : ∀ (f p q : Nat) (l : List UInt8), (pcs f p l).length = (pcs f q l).length
  | 0, _, _, _ => rfl
  | f + 1, p, q, l => by
    unfold pcs
    split
    · rfl
    · rw [List.length_cons, List.length_cons, pcs_len_p f _ (q + (Lib.decodeL l).2)]
theorem runesL_cons {l : List UInt8} (hl : l ≠ []) : runesL l = 1 + runesL (l.drop (wid l)) := by
  show (pcs l.length 0 l).length = 1 + (pcs _ 0 _).length
  rw [pcs_step hl, List.length_cons, pcs_len_p _ _ 0]
  unfold wid
  omega
theorem runesL_enc {r : Nat} (hv : r < 55296 ∨ (57344 ≤ r ∧ r ≤ 1114111)) (t : List UInt8) : runesL (Lib.encodeRune (r : Int) ++ t) = 1 + runesL t := by
  have hd := decode_encode r hv t
  have hp : 1 ≤ (Lib.encodeRune (r : Int)).length := by
    have h := Lib.runeCells_le (r : Int)
    rw [Lib.runeCells_length] at h
    exact h.1
  have hne : Lib.encodeRune (r : Int) ++ t ≠ [] := by
    intro h
    have := congrArg List.length (List.append_eq_nil_iff.1 h).1
    rw [List.length_nil] at this
    omega
  rw [runesL_cons hne]
  unfold wid
  rw [hd, List.drop_left' rfl]
/-- Runes as bytes. -/
def encs (rs : List Nat) : List UInt8 := (rs.map fun (r : Nat) => Lib.encodeRune (r : Int)).flatten
theorem encs_snoc (rs : List Nat) (r : Nat) : encs (rs ++ [r]) = encs rs ++ Lib.encodeRune (r : Int) := by simp [encs]
theorem runesL_encs : ∀ (rs : List Nat), (∀ r ∈ rs, r < 55296 ∨ (57344 ≤ r ∧ r ≤ 1114111)) → runesL (encs rs) = rs.length
  | [], _ => rfl
  | r :: rs, h => by
    show runesL (Lib.encodeRune (r : Int) ++ encs rs) = _
    rw [runesL_enc (h r (by simp)), runesL_encs rs (fun x hx => h x (by simp [hx])), List.length_cons]
    omega

end Go.Proofs.YtnjdepojmnniaaaGreatDoor

/- Formulas as tokens: a token ends where a piece ends; the program's loop: plain. -/
namespace Go.Proofs.YtnjdepojmnniaaaGreatDoor
open Go

/-- So many bytes are whole pieces. -/
inductive Bd : List UInt8 → Nat → Prop where
  | zero (l : List UInt8) : Bd l 0
  | step {l : List UInt8} {d : Nat} (h : l ≠ []) (g : Bd (l.drop (wid l)) d) : Bd l (wid l + d)
theorem Bd.next {l : List UInt8} {d : Nat} (h : Bd l d) (hd : 0 < d) : l ≠ [] ∧ wid l ≤ d ∧ Bd (l.drop (wid l)) (d - wid l) := by
  cases h with
  | zero => omega
  | step h g => exact ⟨h, by omega, by rw [Nat.add_sub_cancel_left]; exact g⟩
theorem Bd.low {c : UInt8} {t : List UInt8} {d : Nat} (hc : c.toNat < 128) (h : Bd t d) : Bd (c :: t) (d + 1) := by
  have hw : wid (c :: t) = 1 := by unfold wid; rw [decode_byte c t hc]
  have := Bd.step (l := c :: t) (d := d) (by simp) (by rw [hw]; exact h)
  rw [hw, Nat.add_comm] at this
  exact this
theorem run_bd (a b : Nat) : ∀ (n : Nat) (l : List UInt8), l.length ≤ n → Bd l (runL a b l)
  | 0, l, h => by
    obtain rfl : l = [] := List.eq_nil_of_length_eq_zero (by omega)
    rw [runL_nil]; exact .zero _
  | n + 1, l, h => by
    by_cases hl : l = []
    · subst hl; rw [runL_nil]; exact .zero _
    · by_cases hc : clsL l = a ∨ clsL l = b
      · have hp := wid_pos l
        have hpos := List.length_pos_iff.2 hl
        rw [runL_in hl hc]
        exact .step hl (run_bd a b n _ (by rw [List.length_drop]; omega))
      · rw [runL_out hc]; exact .zero _
theorem hexV_low {c : UInt8} {d : Nat} (h : hexV c = some d) : c.toNat < 128 := by
  unfold hexV at h
  split at h
  · omega
  · split at h
    · omega
    · cases h
theorem hx_low : ∀ (l : List UInt8) (u v : Nat), hx l u = some v → ∀ c ∈ l, c.toNat < 128
  | [], _, _, _, c, hc => by cases hc
  | x :: r, u, v, h, c, hc => by
    unfold hx at h
    rcases hv : hexV x with _ | d
    · rw [hv] at h; cases h
    · rw [hv] at h
      rcases List.mem_cons.1 hc with rfl | hc
      · exact hexV_low hv
      · exact hx_low r _ v h c hc
/-- Behind a sign ahead: the sign's own pieces and what follows. -/
theorem esc_bd {l : List UInt8} {d : Nat} (h92 : (Lib.decodeL l).1 = 92) (hl : l ≠ []) (he : (escL l).2 ≠ 0) (h : Bd (l.drop (escL l).2) d) : Bd l ((escL l).2 + d) := by
  match l, hl with
  | [_], _ => simp [escL] at he
  | a :: b :: t, _ =>
    have ha : a.toNat < 128 := by
      obtain ⟨t', ht⟩ := dec_head (by simp) (by decide) h92
      injection ht with ht _
      rw [ht]; decide
    by_cases h1 : b.toNat = 34 ∨ b.toNat = 92
    · rw [escL_sign h1] at h ⊢
      have hb : b.toNat < 128 := by omega
      have := Bd.low ha (Bd.low hb h)
      rw [show d + 1 + 1 = 2 + d by omega] at this
      exact this
    · by_cases h2 : b.toNat = 117
      · by_cases h4 : 4 ≤ t.length
        · have e := escL_hx (a := a) h1 h2 h4
          rcases hh : hx (t.take 4) 0 with _ | v
          · rw [hh] at e; rw [e] at he; simp at he
          · rw [hh] at e
            dsimp only at e
            split at e
            · rw [e] at he; simp at he
            · rw [e] at h ⊢
              have hlow := hx_low _ _ _ hh
              match t, h4 with
              | x :: y :: z :: u :: r, _ =>
                have := Bd.low ha (Bd.low (c := b) (by omega) (Bd.low (hlow x (by simp)) (Bd.low (hlow y (by simp)) (Bd.low (hlow z (by simp)) (Bd.low (hlow u (by simp)) h)))))
                rw [show d + 1 + 1 + 1 + 1 + 1 + 1 = 6 + d by omega] at this
                exact this
        · rw [escL_short h1 (by omega)] at he; simp at he
      · rw [escL_no h1 h2] at he; simp at he
theorem unqGo_bd : ∀ (f : Nat) (l acc : List UInt8) (p : Nat) (t : List UInt8) (q : Nat), unqGo f l acc p = some (t, q) → Bd l (q - p)
  | 0, _, _, _, _, _, h => by cases h
  | f + 1, l, acc, p, t, q, h => by
    have hpos := unqGo_pos _ _ _ _ _ _ h
    rw [unqGo_succ] at h
    split at h
    · cases h
    · rename_i hne
      split at h
      · rename_i hq
        obtain ⟨hw1, _⟩ := dec34 hne (by omega) hq
        injection h with h
        injection h with _ h
        have := Bd.step hne (.zero (l.drop (wid l)))
        rw [hw1] at this
        rw [show q - p = 1 + 0 by omega]
        exact this
      · split at h
        · rename_i h92
          split at h
          · cases h
          · rename_i hes
            have hp2 := unqGo_pos _ _ _ _ _ _ h
            have ih := unqGo_bd f _ _ _ t q h
            have := esc_bd h92 hne hes ih
            rw [show q - p = (escL l).2 + (q - (p + (escL l).2)) by omega]
            exact this
        · split at h
          · cases h
          · have hp2 := unqGo_pos _ _ _ _ _ _ h
            have ih := unqGo_bd f _ _ _ t q h
            have := Bd.step hne ih
            have hw : wid l = (Lib.decodeL l).2 := rfl
            rw [hw] at this
            rw [show q - p = (Lib.decodeL l).2 + (q - (p + (Lib.decodeL l).2)) by omega]
            exact this
theorem one_bd {l : List UInt8} {t : TokD} {k : Nat} (hl : l ≠ []) (h : oneD l = some (t, k)) : Bd l k := by
  have hk := oneD_pos hl h
  unfold oneD at h
  split at h
  · split at h
    · injection h with h
      injection h with _ h
      rw [← h]
      exact run_bd 2 2 _ l (Nat.le_refl _)
    · cases h
  · split at h
    · split at h
      · injection h with h
        injection h with _ h
        rw [← h]
        exact run_bd 1 2 _ l (Nat.le_refl _)
      · cases h
    · split at h
      · rename_i h34
        rcases hu : unqL l with _ | ⟨u, q⟩
        · rw [hu] at h; cases h
        · rw [hu] at h
          dsimp only at h
          split at h
          · injection h with h
            injection h with _ h
            subst h
            rcases l with _ | ⟨b, r⟩
            · cases h34
            · have hb : b = 34 := by simpa using h34
              subst hb
              rw [unqL_cons, if_pos (by decide)] at hu
              have := Bd.low (c := 34) (by decide) (unqGo_bd _ _ _ _ _ _ hu)
              rw [show q - 1 + 1 = q by omega] at this
              exact this
          · cases h
      · split at h
        · cases h
        · injection h with h
          injection h with _ h
          rcases l with _ | ⟨c, r⟩
          · exact absurd rfl hl
          · rw [signL_cons] at h
            by_cases h61 : (c = 60 ∨ c = 62 ∨ c = 33) ∧ r.head? = some 61
            · rw [if_pos h61] at h
              subst h
              have hc : c.toNat < 128 := by rcases h61.1 with rfl | rfl | rfl <;> decide
              rcases r with _ | ⟨d, r⟩
              · simp at h61
              · have hd : d = 61 := by simpa using h61.2
                subst hd
                exact Bd.low hc (Bd.low (by decide) (.zero r))
            · rw [if_neg h61] at h
              by_cases hm : signs.contains c = true
              · rw [if_pos hm] at h
                subst h
                have : ∀ c ∈ signs, c.toNat < 128 := by decide
                exact Bd.low (this c (by simpa using hm)) (.zero r)
              · rw [if_neg hm] at h; omega
/-- The program's loop: the place of the piece ahead, the end of the last token, the tokens so far. -/
structure LexAt (L : List UInt8) (ts : List TokD) (p e : Nat) : Prop where
  place : p ≤ L.length
  last : e ≤ L.length
  open_ : p < e → Bd (L.drop p) (e - p)
  rest : lexL L 0 = match lexL (L.drop (max p e)) (max p e) with
    | .error q => .error q
    | .ok us => .ok (ts ++ us)
theorem LexAt.zero (L : List UInt8) : LexAt L [] 0 0 := ⟨Nat.zero_le _, Nat.zero_le _, fun h => by omega, by
  show lexL L 0 = match lexL (L.drop 0) 0 with | .error q => .error q | .ok us => .ok ([] ++ us)
  rw [List.drop_zero]
  rcases lexL L 0 with q | us <;> rfl⟩
theorem LexAt.skip {L : List UInt8} {ts : List TokD} {p e : Nat} (h : LexAt L ts p e) (hp : p < L.length) (hpe : p < e) : LexAt L ts (p + wid (L.drop p)) e := by
  obtain ⟨h1, h2, h3⟩ := (h.open_ hpe).next (by omega)
  have hw := wid_le h1
  rw [List.length_drop] at hw
  refine ⟨by omega, h.last, fun h' => ?_, ?_⟩
  · rw [← List.drop_drop, show e - (p + wid (L.drop p)) = e - p - wid (L.drop p) by omega]
    exact h3
  · have := h.rest
    rw [show max p e = e by omega] at this
    rw [show max (p + wid (L.drop p)) e = e by omega]
    exact this
theorem LexAt.space {L : List UInt8} {ts : List TokD} {p e : Nat} (h : LexAt L ts p e) (hp : p < L.length) (hpe : ¬ p < e) (hc : clsL (L.drop p) = 3) : LexAt L ts (p + wid (L.drop p)) e := by
  have hne : L.drop p ≠ [] := by simp; omega
  have hw := wid_le hne
  rw [List.length_drop] at hw
  refine ⟨by omega, h.last, fun h' => by omega, ?_⟩
  have := h.rest
  rw [show max p e = p by omega, lexL_space hne hc, List.drop_drop] at this
  rw [show max (p + wid (L.drop p)) e = p + wid (L.drop p) by omega]
  exact this
theorem LexAt.bad {L : List UInt8} {ts : List TokD} {p e : Nat} (h : LexAt L ts p e) (hp : p < L.length) (hpe : ¬ p < e) (hc : clsL (L.drop p) ≠ 3) (ho : oneD (L.drop p) = none) : lexL L 0 = .error p := by
  have hne : L.drop p ≠ [] := by simp; omega
  have := h.rest
  rw [show max p e = p by omega, lexL_bad hne hc ho] at this
  exact this
theorem LexAt.tok {L : List UInt8} {ts : List TokD} {p e : Nat} (h : LexAt L ts p e) (hp : p < L.length) (hpe : ¬ p < e) (hc : clsL (L.drop p) ≠ 3) {t : TokD} {k : Nat} (ho : oneD (L.drop p) = some (t, k)) : LexAt L (ts ++ [{ t with at_ := p }]) (p + wid (L.drop p)) (p + k) := by
  have hne : L.drop p ≠ [] := by simp; omega
  have hk := oneD_pos hne ho
  have hw := wid_le hne
  rw [List.length_drop] at hw hk
  obtain ⟨_, g2, g3⟩ := (one_bd hne ho).next (by omega)
  refine ⟨by omega, by omega, fun h' => ?_, ?_⟩
  · rw [← List.drop_drop, show p + k - (p + wid (L.drop p)) = k - wid (L.drop p) by omega]
    exact g3
  · have hr := h.rest
    rw [show max p e = p by omega, lexL_tok hne hc ho, List.drop_drop] at hr
    rw [show max (p + wid (L.drop p)) (p + k) = p + k by omega, hr]
    rcases lexL (L.drop (p + k)) (p + k) with q | us
    · rfl
    · simp
theorem LexAt.end_ {L : List UInt8} {ts : List TokD} {p e : Nat} (h : LexAt L ts p e) (hp : ¬ p < L.length) : lexL L 0 = .ok (ts ++ [⟨0, [], 0, L.length⟩]) := by
  have hr := h.rest
  have h1 := h.place
  have h2 := h.last
  rw [show max p e = L.length by omega, List.drop_of_length_le (Nat.le_refl _), lexL_nil] at hr
  exact hr

end Go.Proofs.YtnjdepojmnniaaaGreatDoor
