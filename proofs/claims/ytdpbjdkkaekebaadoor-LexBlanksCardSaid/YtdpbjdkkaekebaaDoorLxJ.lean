/- Formulas as tokens: a token ends where a piece ends; the program's loop: plain. -/
import Derived.Test.YtdpbjdkkaekebaaDoorLxI
namespace Go.Proofs.YtdpbjdkkaekebaaDoor
open Go

/-- So many bytes are whole pieces. -/
inductive Bd : List UInt8 → Nat → Prop where
  | zero (l : List UInt8) : Bd l 0
  | step {l : List UInt8} {d : Nat} (h : l ≠ []) (g : Bd (l.drop (wid l)) d) : Bd l (wid l + d)
theorem Bd.next {l : List UInt8} {d : Nat} (h : Bd l d) (hd : 0 < d) : l ≠ [] ∧ wid l ≤ d ∧ Bd (l.drop (wid l)) (d - wid l) := by
  cases h with
  | zero => omega
  | step h g => exact ⟨h, by omega, by rw [Nat.add_sub_cancel_left]; exact g⟩
theorem Bd.low {c : UInt8} {t : List UInt8} {d : Nat} (hc : c.toNat < 128) (h : Bd t d) : Bd (c :: t) (d + 1) := by
  have hw : wid (c :: t) = 1 := by unfold wid; rw [decode_byte c t hc]
  have := Bd.step (l := c :: t) (d := d) (by simp) (by rw [hw]; exact h)
  rw [hw, Nat.add_comm] at this
  exact this
theorem run_bd (a b : Nat) : ∀ (n : Nat) (l : List UInt8), l.length ≤ n → Bd l (runL a b l)
  | 0, l, h => by
    obtain rfl : l = [] := List.eq_nil_of_length_eq_zero (by omega)
    rw [runL_nil]; exact .zero _
  | n + 1, l, h => by
    by_cases hl : l = []
    · subst hl; rw [runL_nil]; exact .zero _
    · by_cases hc : clsL l = a ∨ clsL l = b
      · have hp := wid_pos l
        have hpos := List.length_pos_iff.2 hl
        rw [runL_in hl hc]
        exact .step hl (run_bd a b n _ (by rw [List.length_drop]; omega))
      · rw [runL_out hc]; exact .zero _
theorem hexV_low {c : UInt8} {d : Nat} (h : hexV c = some d) : c.toNat < 128 := by
  unfold hexV at h
  split at h
  · omega
  · split at h
    · omega
    · cases h
theorem hx_low : ∀ (l : List UInt8) (u v : Nat), hx l u = some v → ∀ c ∈ l, c.toNat < 128
  | [], _, _, _, c, hc => by cases hc
  | x :: r, u, v, h, c, hc => by
    unfold hx at h
    rcases hv : hexV x with _ | d
    · rw [hv] at h; cases h
    · rw [hv] at h
      rcases List.mem_cons.1 hc with rfl | hc
      · exact hexV_low hv
      · exact hx_low r _ v h c hc
/-- Behind a sign ahead: the sign's own pieces and what follows. -/
theorem esc_bd {l : List UInt8} {d : Nat} (h92 : (Lib.decodeL l).1 = 92) (hl : l ≠ []) (he : (escL l).2 ≠ 0) (h : Bd (l.drop (escL l).2) d) : Bd l ((escL l).2 + d) := by
  match l, hl with
  | [_], _ => simp [escL] at he
  | a :: b :: t, _ =>
    have ha : a.toNat < 128 := by
      obtain ⟨t', ht⟩ := dec_head (by simp) (by decide) h92
      injection ht with ht _
      rw [ht]; decide
    by_cases h1 : b.toNat = 34 ∨ b.toNat = 92
    · rw [escL_sign h1] at h ⊢
      have hb : b.toNat < 128 := by omega
      have := Bd.low ha (Bd.low hb h)
      rw [show d + 1 + 1 = 2 + d by omega] at this
      exact this
    · by_cases h2 : b.toNat = 117
      · by_cases h4 : 4 ≤ t.length
        · have e := escL_hx (a := a) h1 h2 h4
          rcases hh : hx (t.take 4) 0 with _ | v
          · rw [hh] at e; rw [e] at he; simp at he
          · rw [hh] at e
            dsimp only at e
            split at e
            · rw [e] at he; simp at he
            · rw [e] at h ⊢
              have hlow := hx_low _ _ _ hh
              match t, h4 with
              | x :: y :: z :: u :: r, _ =>
                have := Bd.low ha (Bd.low (c := b) (by omega) (Bd.low (hlow x (by simp)) (Bd.low (hlow y (by simp)) (Bd.low (hlow z (by simp)) (Bd.low (hlow u (by simp)) h)))))
                rw [show d + 1 + 1 + 1 + 1 + 1 + 1 = 6 + d by omega] at this
                exact this
        · rw [escL_short h1 (by omega)] at he; simp at he
      · rw [escL_no h1 h2] at he; simp at he
theorem unqGo_bd : ∀ (f : Nat) (l acc : List UInt8) (p : Nat) (t : List UInt8) (q : Nat), unqGo f l acc p = some (t, q) → Bd l (q - p)
  | 0, _, _, _, _, _, h => by cases h
  | f + 1, l, acc, p, t, q, h => by
    have hpos := unqGo_pos _ _ _ _ _ _ h
    rw [unqGo_succ] at h
    split at h
    · cases h
    · rename_i hne
      split at h
      · rename_i hq
        obtain ⟨hw1, _⟩ := dec34 hne (by omega) hq
        injection h with h
        injection h with _ h
        have := Bd.step hne (.zero (l.drop (wid l)))
        rw [hw1] at this
        rw [show q - p = 1 + 0 by omega]
        exact this
      · split at h
        · rename_i h92
          split at h
          · cases h
          · rename_i hes
            have hp2 := unqGo_pos _ _ _ _ _ _ h
            have ih := unqGo_bd f _ _ _ t q h
            have := esc_bd h92 hne hes ih
            rw [show q - p = (escL l).2 + (q - (p + (escL l).2)) by omega]
            exact this
        · split at h
          · cases h
          · have hp2 := unqGo_pos _ _ _ _ _ _ h
            have ih := unqGo_bd f _ _ _ t q h
            have := Bd.step hne ih
            have hw : wid l = (Lib.decodeL l).2 := rfl
            rw [hw] at this
            rw [show q - p = (Lib.decodeL l).2 + (q - (p + (Lib.decodeL l).2)) by omega]
            exact this
theorem one_bd {l : List UInt8} {t : TokD} {k : Nat} (hl : l ≠ []) (h : oneD l = some (t, k)) : Bd l k := by
  have hk := oneD_pos hl h
  unfold oneD at h
  split at h
  · split at h
    · injection h with h
      injection h with _ h
      rw [← h]
      exact run_bd 2 2 _ l (Nat.le_refl _)
    · cases h
  · split at h
    · split at h
      · injection h with h
        injection h with _ h
        rw [← h]
        exact run_bd 1 2 _ l (Nat.le_refl _)
      · cases h
    · split at h
      · rename_i h34
        rcases hu : unqL l with _ | ⟨u, q⟩
        · rw [hu] at h; cases h
        · rw [hu] at h
          dsimp only at h
          split at h
          · injection h with h
            injection h with _ h
            subst h
            rcases l with _ | ⟨b, r⟩
            · cases h34
            · have hb : b = 34 := by simpa using h34
              subst hb
              rw [unqL_cons, if_pos (by decide)] at hu
              have := Bd.low (c := 34) (by decide) (unqGo_bd _ _ _ _ _ _ hu)
              rw [show q - 1 + 1 = q by omega] at this
              exact this
          · cases h
      · split at h
        · cases h
        · injection h with h
          injection h with _ h
          rcases l with _ | ⟨c, r⟩
          · exact absurd rfl hl
          · rw [signL_cons] at h
            by_cases h61 : (c = 60 ∨ c = 62 ∨ c = 33) ∧ r.head? = some 61
            · rw [if_pos h61] at h
              subst h
              have hc : c.toNat < 128 := by rcases h61.1 with rfl | rfl | rfl <;> decide
              rcases r with _ | ⟨d, r⟩
              · simp at h61
              · have hd : d = 61 := by simpa using h61.2
                subst hd
                exact Bd.low hc (Bd.low (by decide) (.zero r))
            · rw [if_neg h61] at h
              by_cases hm : signs.contains c = true
              · rw [if_pos hm] at h
                subst h
                have : ∀ c ∈ signs, c.toNat < 128 := by decide
                exact Bd.low (this c (by simpa using hm)) (.zero r)
              · rw [if_neg hm] at h; omega
/-- The program's loop: the place of the piece ahead, the end of the last token, the tokens so far. -/
structure LexAt (L : List UInt8) (ts : List TokD) (p e : Nat) : Prop where
  place : p ≤ L.length
  last : e ≤ L.length
  open_ : p < e → Bd (L.drop p) (e - p)
  rest : lexL L 0 = match lexL (L.drop (max p e)) (max p e) with
    | .error q => .error q
    | .ok us => .ok (ts ++ us)
theorem LexAt.zero (L : List UInt8) : LexAt L [] 0 0 := ⟨Nat.zero_le _, Nat.zero_le _, fun h => by omega, by
  show lexL L 0 = match lexL (L.drop 0) 0 with | .error q => .error q | .ok us => .ok ([] ++ us)
  rw [List.drop_zero]
  rcases lexL L 0 with q | us <;> rfl⟩
theorem LexAt.skip {L : List UInt8} {ts : List TokD} {p e : Nat} (h : LexAt L ts p e) (hp : p < L.length) (hpe : p < e) : LexAt L ts (p + wid (L.drop p)) e := by
  obtain ⟨h1, h2, h3⟩ := (h.open_ hpe).next (by omega)
  have hw := wid_le h1
  rw [List.length_drop] at hw
  refine ⟨by omega, h.last, fun h' => ?_, ?_⟩
  · rw [← List.drop_drop, show e - (p + wid (L.drop p)) = e - p - wid (L.drop p) by omega]
    exact h3
  · have := h.rest
    rw [show max p e = e by omega] at this
    rw [show max (p + wid (L.drop p)) e = e by omega]
    exact this
theorem LexAt.space {L : List UInt8} {ts : List TokD} {p e : Nat} (h : LexAt L ts p e) (hp : p < L.length) (hpe : ¬ p < e) (hc : clsL (L.drop p) = 3) : LexAt L ts (p + wid (L.drop p)) e := by
  have hne : L.drop p ≠ [] := by simp; omega
  have hw := wid_le hne
  rw [List.length_drop] at hw
  refine ⟨by omega, h.last, fun h' => by omega, ?_⟩
  have := h.rest
  rw [show max p e = p by omega, lexL_space hne hc, List.drop_drop] at this
  rw [show max (p + wid (L.drop p)) e = p + wid (L.drop p) by omega]
  exact this
theorem LexAt.bad {L : List UInt8} {ts : List TokD} {p e : Nat} (h : LexAt L ts p e) (hp : p < L.length) (hpe : ¬ p < e) (hc : clsL (L.drop p) ≠ 3) (ho : oneD (L.drop p) = none) : lexL L 0 = .error p := by
  have hne : L.drop p ≠ [] := by simp; omega
  have := h.rest
  rw [show max p e = p by omega, lexL_bad hne hc ho] at this
  exact this
theorem LexAt.tok {L : List UInt8} {ts : List TokD} {p e : Nat} (h : LexAt L ts p e) (hp : p < L.length) (hpe : ¬ p < e) (hc : clsL (L.drop p) ≠ 3) {t : TokD} {k : Nat} (ho : oneD (L.drop p) = some (t, k)) : LexAt L (ts ++ [{ t with at_ := p }]) (p + wid (L.drop p)) (p + k) := by
  have hne : L.drop p ≠ [] := by simp; omega
  have hk := oneD_pos hne ho
  have hw := wid_le hne
  rw [List.length_drop] at hw hk
  obtain ⟨_, g2, g3⟩ := (one_bd hne ho).next (by omega)
  refine ⟨by omega, by omega, fun h' => ?_, ?_⟩
  · rw [← List.drop_drop, show p + k - (p + wid (L.drop p)) = k - wid (L.drop p) by omega]
    exact g3
  · have hr := h.rest
    rw [show max p e = p by omega, lexL_tok hne hc ho, List.drop_drop] at hr
    rw [show max (p + wid (L.drop p)) (p + k) = p + k by omega, hr]
    rcases lexL (L.drop (p + k)) (p + k) with q | us
    · rfl
    · simp
theorem LexAt.end_ {L : List UInt8} {ts : List TokD} {p e : Nat} (h : LexAt L ts p e) (hp : ¬ p < L.length) : lexL L 0 = .ok (ts ++ [⟨0, [], 0, L.length⟩]) := by
  have hr := h.rest
  have h1 := h.place
  have h2 := h.last
  rw [show max p e = L.length by omega, List.drop_of_length_le (Nat.le_refl _), lexL_nil] at hr
  exact hr

end Go.Proofs.YtdpbjdkkaekebaaDoor
