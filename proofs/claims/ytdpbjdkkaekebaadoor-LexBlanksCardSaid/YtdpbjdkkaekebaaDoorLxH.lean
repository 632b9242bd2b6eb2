/- Formulas as tokens: two texts joined, places shifted, cuts: plain. -/
import Derived.Test.YtdpbjdkkaekebaaDoorLxG
namespace Go.Proofs.YtdpbjdkkaekebaaDoor
open Go

theorem bad_high {l : List UInt8} (h : badP l) {c : UInt8} (hc : l.head? = some c) : 128 ≤ c.toNat := by
  rcases Nat.lt_or_ge c.toNat 128 with hlt | hge
  · have := head_dec hc hlt
    have h1 := h.1
    omega
  · exact hge
theorem bad_none {l : List UInt8} (h : badP l) : oneD l = none := by
  have hc := cls_bad h
  unfold oneD
  rw [if_neg (by omega), if_neg (by omega)]
  have h34 : l.head? ≠ some 34 := fun h34 => by have := bad_high h h34; revert this; decide
  rw [if_neg h34, if_pos]
  rcases l with _ | ⟨c, t⟩
  · rfl
  · have hb := bad_high h (c := c) rfl
    rw [signL_cons, if_neg, if_neg]
    · intro hm
      have : ∀ c ∈ signs, c.toNat < 128 := by decide
      have := this c (by simpa using hm)
      omega
    · rintro ⟨rfl | rfl | rfl, _⟩ <;> (revert hb; decide)
theorem ok_not_bad {l : List UInt8} {p : Nat} {ts : List TokD} (hl : l ≠ []) (h : lexL l p = .ok ts) : ¬ badP l := fun hb => by
  rw [lexL_bad hl (by rw [cls_bad hb]; decide) (bad_none hb)] at h
  cases h
theorem run_stop (a b : Nat) : ∀ (n : Nat) (l : List UInt8), l.length ≤ n → l.drop (runL a b l) = [] ∨ ¬ (clsL (l.drop (runL a b l)) = a ∨ clsL (l.drop (runL a b l)) = b)
  | 0, l, h => by
    obtain rfl : l = [] := List.eq_nil_of_length_eq_zero (by omega)
    exact .inl (by simp)
  | n + 1, l, h => by
    by_cases hl : l = []
    · subst hl; exact .inl (by simp)
    · by_cases hc : clsL l = a ∨ clsL l = b
      · rw [runL_in hl hc, ← List.drop_drop]
        have hp := wid_pos l
        have hpos := List.length_pos_iff.2 hl
        exact run_stop a b n (l.drop (wid l)) (by rw [List.length_drop]; omega)
      · rw [runL_out hc, List.drop_zero]
        exact .inr hc
/-- What stands behind a token fits it. -/
theorem fits_self {l : List UInt8} {t : TokD} {k : Nat} (h : oneD l = some (t, k)) : Fits l k (l.drop k) := by
  refine ⟨fun c2 => ?_, fun c1 => ?_, fun h => h⟩
  · unfold oneD at h
    rw [if_pos c2] at h
    split at h
    · injection h with h
      injection h with _ h
      rw [← h]
      exact (run_stop 2 2 _ l (Nat.le_refl _)).imp id (fun h => by simpa using h)
    · cases h
  · unfold oneD at h
    rw [if_neg (by omega), if_pos c1] at h
    split at h
    · injection h with h
      injection h with _ h
      rw [← h]
      refine (run_stop 1 2 _ l (Nat.le_refl _)).imp id (fun h => ?_)
      exact ⟨fun h' => h (.inl h'), fun h' => h (.inr h')⟩
    · cases h
theorem fits_app {l T : List UInt8} {k : Nat} (h : Fits l k T) (hT : T ≠ [] → ¬ badP T) (b : List UInt8) : Fits l k (T ++ 32 :: b) := by
  by_cases hn : T = []
  · subst hn
    exact fits_space ((Blank.byte (.inl rfl) b 0).2 (by simp))
  · have hc : clsL (T ++ 32 :: b) = clsL T := by
      have hw := wid_le hn
      have e : T ++ 32 :: b = T.take (wid T) ++ (T.drop (wid T) ++ 32 :: b) := by rw [← List.append_assoc, List.take_append_drop]
      rw [e, cls_swap hn (hT hn)]
    refine ⟨fun c2 => ?_, fun c1 => ?_, fun h61 => h.sign ?_⟩
    · rcases h.num c2 with h | h
      · exact absurd h hn
      · exact .inr (by rw [hc]; exact h)
    · rcases h.name c1 with h | h
      · exact absurd h hn
      · exact .inr (by rw [hc]; exact h)
    · rcases T with _ | ⟨c, t⟩
      · exact absurd rfl hn
      · exact h61
theorem lex_ne {l : List UInt8} {p : Nat} {ts : List TokD} (h : lexL l p = .ok ts) : ts ≠ [] := by
  intro e
  subst e
  have := lex_segs (List.replicate p 0 ++ l) _ p [] (Nat.le_refl _) (by simp) (by rw [List.drop_left' (by simp)]; exact h)
  obtain ⟨t, r, h1, _⟩ := this
  cases h1
theorem lex_join (b : List UInt8) : ∀ (n : Nat) (a : List UInt8) (p : Nat) (ts : List TokD), a.length ≤ n → lexL a p = .ok ts → lexL (a ++ 32 :: b) p = match lexL b (p + a.length + 1) with
    | .error q => .error q
    | .ok us => .ok (ts.dropLast ++ us)
  | n, a, p, ts, hn, h => by
    by_cases hl : a = []
    · subst hl
      rw [lexL_nil] at h
      injection h with h
      subst h
      have := (Blank.byte (.inl rfl) b p).1
      show lexL ([32] ++ b) p = _
      rw [this]
      show lexL b (p + 1) = match lexL b (p + 0 + 1) with | .error q => .error q | .ok us => .ok ([] ++ us)
      rcases lexL b (p + 1) with q | us <;> rfl
    · have hpos := List.length_pos_iff.2 hl
      rcases n with _ | n
      · omega
      have hnb := ok_not_bad hl h
      have hw := wid_le hl
      have hwp := wid_pos a
      by_cases hc : clsL a = 3
      · rw [lexL_space hl hc] at h
        have ih := lex_join b n (a.drop (wid a)) (p + wid a) ts (by rw [List.length_drop]; omega) h
        have e : a ++ 32 :: b = a.take (wid a) ++ (a.drop (wid a) ++ 32 :: b) := by rw [← List.append_assoc, List.take_append_drop]
        have hB := (Blank.piece hl hc (a.drop (wid a) ++ 32 :: b) p).1
        have hlen : (a.take (wid a)).length = wid a := by rw [List.length_take]; omega
        rw [hlen] at hB
        rw [e, hB, ih, List.length_drop, show p + wid a + (a.length - wid a) + 1 = p + a.length + 1 by omega]
      · rcases ho : oneD a with _ | ⟨t0, k⟩
        · rw [lexL_bad hl hc ho] at h; cases h
        · have hk := oneD_pos hl ho
          rw [lexL_tok hl hc ho] at h
          rcases hr : lexL (a.drop k) (p + k) with q | us
          · rw [hr] at h; cases h
          · rw [hr] at h
            dsimp only at h
            injection h with h
            subst h
            have ih := lex_join b n (a.drop k) (p + k) us (by rw [List.length_drop]; omega) hr
            have hf := fits_app (fits_self ho) (fun hT => ok_not_bad hT hr) b
            obtain ⟨s1, s2⟩ := one_swap hl ho hc hf
            have e : a ++ 32 :: b = a.take k ++ (a.drop k ++ 32 :: b) := by rw [← List.append_assoc, List.take_append_drop]
            have hlen : (a.take k).length = k := by rw [List.length_take]; omega
            have hne : a.take k ++ (a.drop k ++ 32 :: b) ≠ [] := by rw [← e]; simp
            rw [e, lexL_tok hne (by rw [s2]; exact hc) s1, List.drop_left' hlen, ih, List.length_drop, show p + k + (a.length - k) + 1 = p + a.length + 1 by omega]
            have hus := lex_ne hr
            rcases lexL b (p + a.length + 1) with q | vs
            · rfl
            · dsimp only
              rw [List.dropLast_cons_of_ne_nil hus]
              rfl
/-- The places do not matter. -/
def shiftR (d : Nat) : Except Nat (List TokD) → Except Nat (List TokD)
  | .error q => .error (q + d)
  | .ok ts => .ok (ts.map fun t => { t with at_ := t.at_ + d })
theorem lex_shift (d : Nat) : ∀ (n : Nat) (l : List UInt8) (p : Nat), l.length ≤ n → lexL l (p + d) = shiftR d (lexL l p)
  | n, l, p, hn => by
    by_cases hl : l = []
    · subst hl
      rw [lexL_nil, lexL_nil]; rfl
    · have hpos := List.length_pos_iff.2 hl
      have hwp := wid_pos l
      rcases n with _ | n
      · omega
      by_cases hc : clsL l = 3
      · rw [lexL_space hl hc, lexL_space hl hc, ← lex_shift d n (l.drop (wid l)) (p + wid l) (by rw [List.length_drop]; omega)]
        rw [show p + d + wid l = p + wid l + d by omega]
      · rcases ho : oneD l with _ | ⟨t0, k⟩
        · rw [lexL_bad hl hc ho, lexL_bad hl hc ho]; rfl
        · have hk := oneD_pos hl ho
          rw [lexL_tok hl hc ho, lexL_tok hl hc ho, show p + d + k = p + k + d by omega, lex_shift d n (l.drop k) (p + k) (by rw [List.length_drop]; omega)]
          rcases lexL (l.drop k) (p + k) with q | us <;> rfl
/-- What a law of cuts asks of tokens that stand one behind the other. -/
theorem segs_cut {L : List UInt8} : ∀ (ts : List TokD), Segs L ts → ∀ (i : Nat) (t u : TokD), ts[i]? = some t → ts[i + 1]? = some u → t.at_ < u.at_ ∧ u.at_ ≤ L.length ∧ t.kind ≠ 0 ∧ ((t.kind = 3 ∨ t.kind = 4) → t.s.length ≤ u.at_ - t.at_ ∧ (L.drop t.at_).take t.s.length = t.s)
  | [], h, _, _, _, _, _ => h.elim
  | [_], _, i, t, u, h1, h2 => by simp at h2
  | t :: u :: r, h, 0, t', u', h1, h2 => by
    obtain ⟨⟨t0, k, ho, ht, hl, hc, g1, g2, hW⟩, hS⟩ := h
    have hk := oneD_pos hl ho
    obtain ⟨e1, e2⟩ := one_text hl ho
    rw [List.length_drop] at hk
    have h1' : t = t' := by simpa using h1
    have h2' : u = u' := by simpa using h2
    subst h1' h2'
    have hkd : t.kind = t0.kind := by rw [ht]
    have hsd : t.s = t0.s := by rw [ht]
    refine ⟨by omega, g2, by rw [hkd]; exact e1, fun hk34 => ?_⟩
    rw [hkd] at hk34
    have e3 := e2 hk34
    rw [hsd, e3, List.length_take, List.length_drop]
    refine ⟨by omega, ?_⟩
    congr 1
    omega
  | t :: u :: r, h, i + 1, t', u', h1, h2 => segs_cut (u :: r) h.2 i t' u' (by simpa using h1) (by simpa using h2)
theorem segs_last {L : List UInt8} : ∀ (ts : List TokD), Segs L ts → ts.getLast? = some ⟨0, [], 0, L.length⟩
  | [], h => h.elim
  | [t], h => by rw [show t = _ from h]; rfl
  | t :: u :: r, h => by
    have := segs_last (u :: r) h.2
    rw [List.getLast?_cons_cons]
    exact this

end Go.Proofs.YtdpbjdkkaekebaaDoor
