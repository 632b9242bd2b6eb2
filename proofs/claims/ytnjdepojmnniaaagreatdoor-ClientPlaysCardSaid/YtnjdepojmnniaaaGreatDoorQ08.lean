/- Joined of LxE, LxF, LxG. -/
import Derived.Test.YtnjdepojmnniaaaGreatDoorQ07

set_option linter.unusedSimpArgs false
set_option linter.unusedVariables false

/- Formulas as tokens: what a token's own bytes decide: plain. -/
namespace Go.Proofs.YtnjdepojmnniaaaGreatDoor
open Go

/-- The piece ahead is a byte that is none. -/
def badP (l : List UInt8) : Prop := (Lib.decodeL l).1 = 65533 ∧ (Lib.decodeL l).2 = 1
theorem cls_bad {l : List UInt8} (h : badP l) : clsL l = 0 := by unfold clsL; rw [h.1]; rfl
theorem dec_swap {l : List UInt8} (hl : l ≠ []) (hb : ¬ badP l) (x : List UInt8) : Lib.decodeL (l.take (wid l) ++ x) = Lib.decodeL l := by
  have he := Lib.encode_decode l hl hb
  have hd := decode_encode (Lib.decodeL l).1 (decodeL_valid l) x
  unfold wid
  rw [he] at hd
  rw [hd]
  refine Prod.ext rfl ?_
  show ((l.take (Lib.decodeL l).2).length) = _
  rw [List.length_take]
  have := Lib.decodeL_le l hl
  omega
theorem cls_swap {l : List UInt8} (hl : l ≠ []) (hb : ¬ badP l) (x : List UInt8) : clsL (l.take (wid l) ++ x) = clsL l := by unfold clsL; rw [dec_swap hl hb]
theorem wid_swap {l : List UInt8} (hl : l ≠ []) (hb : ¬ badP l) (x : List UInt8) : wid (l.take (wid l) ++ x) = wid l := by
  show (Lib.decodeL (l.take (wid l) ++ x)).2 = wid l
  rw [dec_swap hl hb]; rfl
theorem not_bad {l : List UInt8} (h : clsL l ≠ 0) : ¬ badP l := fun hb => h (cls_bad hb)
theorem take_take_app {l x : List UInt8} {n m : Nat} (h : n ≤ m) (hm : m ≤ l.length) : l.take m ++ x = l.take n ++ ((l.drop n).take (m - n) ++ x) := by
  rw [← List.append_assoc]
  congr 1
  have : l.take m = l.take (n + (m - n)) := by congr 1; omega
  rw [this, List.take_add]
theorem drop_swap {l x : List UInt8} {n : Nat} (hn : n ≤ l.length) : (l.take n ++ x).drop n = x := by
  rw [List.drop_left']
  rw [List.length_take]; omega
theorem run_swap (a b : Nat) (ha : a ≠ 0) (hb : b ≠ 0) : ∀ (n : Nat) (l x : List UInt8), l.length ≤ n → (x = [] ∨ ¬ (clsL x = a ∨ clsL x = b)) → runL a b (l.take (runL a b l) ++ x) = runL a b l
  | 0, l, x, h, hx => by
    obtain rfl : l = [] := List.eq_nil_of_length_eq_zero (by omega)
    rw [runL_nil]
    rcases hx with rfl | hx
    · exact runL_nil a b
    · exact runL_out hx
  | n + 1, l, x, h, hx => by
    by_cases hl : l = []
    · subst hl
      rw [runL_nil]
      rcases hx with rfl | hx
      · exact runL_nil a b
      · exact runL_out hx
    · by_cases hc : clsL l = a ∨ clsL l = b
      · have hnb : ¬ badP l := not_bad (by rcases hc with h | h <;> omega)
        have hw := wid_le hl
        have hp := wid_pos l
        have hr := runL_le a b _ (l.drop (wid l)) (Nat.le_refl _)
        rw [List.length_drop] at hr
        have hpos := List.length_pos_iff.2 hl
        rw [runL_in hl hc, take_take_app (n := wid l) (by omega) (by omega)]
        rw [show wid l + runL a b (l.drop (wid l)) - wid l = runL a b (l.drop (wid l)) by omega]
        have hne : l.take (wid l) ++ ((l.drop (wid l)).take (runL a b (l.drop (wid l))) ++ x) ≠ [] := by
          intro h0
          have := (List.append_eq_nil_iff.1 h0).1
          have h1 := congrArg List.length this
          rw [List.length_take, List.length_nil] at h1
          omega
        rw [runL_in hne (by rw [cls_swap hl hnb]; exact hc), wid_swap hl hnb, drop_swap hw, run_swap a b ha hb n _ x (by rw [List.length_drop]; omega) hx]
      · rw [runL_out hc, List.take_zero, List.nil_append]
        rcases hx with rfl | hx
        · exact runL_nil a b
        · exact runL_out hx
theorem escL_swap {l : List UInt8} (h : (escL l).2 ≠ 0) (x : List UInt8) : escL (l.take (escL l).2 ++ x) = escL l := by
  match l with
  | [] => simp [escL] at h
  | [_] => simp [escL] at h
  | a :: b :: t =>
    by_cases h1 : b.toNat = 34 ∨ b.toNat = 92
    · rw [escL_sign h1]
      show escL (a :: b :: x) = _
      rw [escL_sign h1]
    · by_cases h2 : b.toNat = 117
      · by_cases h4 : 4 ≤ t.length
        · have e := escL_hx (a := a) h1 h2 h4
          rw [e] at h ⊢
          rcases hh : hx (t.take 4) 0 with _ | v
          · rw [hh] at h; simp at h
          · rw [hh] at h
            dsimp only at h ⊢
            split at h
            · simp at h
            · rename_i hs
              rw [if_neg hs]
              show escL (a :: b :: (t.take 4 ++ x)) = _
              rw [escL_hx h1 h2 (by rw [List.length_append, List.length_take]; omega), List.take_left' (by rw [List.length_take]; omega), hh]
              dsimp only
              rw [if_neg hs]
        · rw [escL_short h1 (by omega)] at h; simp at h
      · rw [escL_no h1 h2] at h; simp at h
theorem dec34 {l : List UInt8} (hl : l ≠ []) {c : Nat} (hc : c < 128) (h : (Lib.decodeL l).1 = c) : wid l = 1 ∧ ¬ badP l := by
  have hb : ¬ badP l := fun hb => by have := hb.1; omega
  have he := Lib.encode_decode l hl hb
  refine ⟨?_, hb⟩
  rw [h, enc1 c hc] at he
  have h1 := congrArg List.length he
  rw [List.length_take] at h1
  have h2 := Lib.decodeL_le l hl
  simp at h1
  unfold wid
  omega
theorem unqGo_swap : ∀ (f : Nat) (l acc : List UInt8) (p : Nat) (t : List UInt8) (q : Nat) (x : List UInt8), unqGo f l acc p = some (t, q) → unqGo f (l.take (q - p) ++ x) acc p = some (t, q)
  | 0, _, _, _, _, _, _, h => by cases h
  | f + 1, l, acc, p, t, q, x, h => by
    have hpos := unqGo_pos _ _ _ _ _ _ h
    have h0 := h
    rw [unqGo_succ] at h
    by_cases hne : l = []
    · rw [if_pos hne] at h; cases h
    rw [if_neg hne] at h
    have hlp := List.length_pos_iff.2 hne
    have ne' : l.take (q - p) ++ x ≠ [] := by
      intro h1
      have h2 := congrArg List.length (List.append_eq_nil_iff.1 h1).1
      rw [List.length_take, List.length_nil] at h2
      omega
    have hwl := wid_le hne
    rw [unqGo_succ, if_neg ne']
    split at h
    · rename_i hq
      obtain ⟨hw1, hnb⟩ := dec34 hne (by omega) hq
      injection h with h
      injection h with ha hb
      have e : l.take (q - p) ++ x = l.take (wid l) ++ x := by rw [hw1, show q - p = 1 by omega]
      rw [e, dec_swap hne hnb, if_pos hq, ha, hb]
    · rename_i h34
      split at h
      · rename_i h92
        obtain ⟨hw1, hnb⟩ := dec34 hne (by omega) h92
        split at h
        · cases h
        · rename_i hes
          have hel := escL_le l
          have hp2 := unqGo_pos _ _ _ _ _ _ h
          have e1 : l.take (q - p) ++ x = l.take (wid l) ++ ((l.drop (wid l)).take (q - p - wid l) ++ x) := take_take_app (by rw [hw1]; omega) (by omega)
          have e2 : l.take (q - p) ++ x = l.take (escL l).2 ++ ((l.drop (escL l).2).take (q - p - (escL l).2) ++ x) := take_take_app (by omega) (by omega)
          have d1 : Lib.decodeL (l.take (q - p) ++ x) = Lib.decodeL l := by rw [e1, dec_swap hne hnb]
          have d2 : escL (l.take (q - p) ++ x) = escL l := by rw [e2, escL_swap hes]
          rw [d1, if_neg h34, if_pos h92, d2, if_neg hes]
          have d3 : (l.take (q - p) ++ x).drop (escL l).2 = (l.drop (escL l).2).take (q - (p + (escL l).2)) ++ x := by
            rw [e2, drop_swap (by omega), show q - p - (escL l).2 = q - (p + (escL l).2) by omega]
          rw [d3]
          exact unqGo_swap f _ _ _ t q x h
      · rename_i h92
        split at h
        · cases h
        · rename_i hbd
          have hnb : ¬ badP l := fun hb => hbd (.inl hb)
          have hp2 := unqGo_pos _ _ _ _ _ _ h
          have hw2 : wid l = (Lib.decodeL l).2 := rfl
          have e1 : l.take (q - p) ++ x = l.take (wid l) ++ ((l.drop (wid l)).take (q - p - wid l) ++ x) := take_take_app (by omega) (by omega)
          have d1 : Lib.decodeL (l.take (q - p) ++ x) = Lib.decodeL l := by rw [e1, dec_swap hne hnb]
          rw [d1, if_neg h34, if_neg h92, if_neg hbd]
          have d3 : (l.take (q - p) ++ x).drop (Lib.decodeL l).2 = (l.drop (Lib.decodeL l).2).take (q - (p + (Lib.decodeL l).2)) ++ x := by
            rw [e1, ← hw2, drop_swap hwl, show q - p - wid l = q - (p + wid l) by omega]
          rw [d3]
          exact unqGo_swap f _ _ _ t q x h
theorem unqGo_more : ∀ (f g : Nat) (l acc : List UInt8) (p : Nat) (r : List UInt8 × Nat), f ≤ g → unqGo f l acc p = some r → unqGo g l acc p = some r
  | 0, _, _, _, _, _, _, h => by cases h
  | f + 1, 0, _, _, _, _, hg, _ => by omega
  | f + 1, g + 1, l, acc, p, r, hg, h => by
    rw [unqGo_succ] at h ⊢
    split at h
    · cases h
    · rename_i h1
      rw [if_neg h1]
      split at h
      · rename_i h2
        rw [if_pos h2]; exact h
      · rename_i h2
        rw [if_neg h2]
        split at h
        · rename_i h3
          rw [if_pos h3]
          split at h
          · cases h
          · rename_i h4
            rw [if_neg h4]
            exact unqGo_more f g _ _ _ r (by omega) h
        · rename_i h3
          rw [if_neg h3]
          split at h
          · cases h
          · rename_i h4
            rw [if_neg h4]
            exact unqGo_more f g _ _ _ r (by omega) h
/-- How much fuel a text needs that is read. -/
theorem unqGo_fuel : ∀ (f : Nat) (l acc : List UInt8) (p : Nat) (t : List UInt8) (q : Nat), unqGo f l acc p = some (t, q) → unqGo (q - p) l acc p = some (t, q)
  | 0, _, _, _, _, _, h => by cases h
  | f + 1, l, acc, p, t, q, h => by
    have hpos := unqGo_pos _ _ _ _ _ _ h
    obtain ⟨d, hd⟩ : ∃ d, q - p = d + 1 := ⟨q - p - 1, by omega⟩
    rw [hd]
    rw [unqGo_succ] at h ⊢
    split at h
    · cases h
    · rename_i h1
      rw [if_neg h1]
      split at h
      · rename_i h2
        rw [if_pos h2]; exact h
      · rename_i h2
        rw [if_neg h2]
        split at h
        · rename_i h3
          rw [if_pos h3]
          split at h
          · cases h
          · rename_i h4
            rw [if_neg h4]
            have hp := unqGo_pos _ _ _ _ _ _ h
            have he := escL_le l
            exact unqGo_more _ d _ _ _ _ (by omega) (unqGo_fuel f _ _ _ t q h)
        · rename_i h3
          rw [if_neg h3]
          split at h
          · cases h
          · rename_i h4
            rw [if_neg h4]
            have hp := unqGo_pos _ _ _ _ _ _ h
            have hw := Lib.decodeL_width l
            exact unqGo_more _ d _ _ _ _ (by omega) (unqGo_fuel f _ _ _ t q h)
theorem unqL_cons (b : UInt8) (t : List UInt8) : unqL (b :: t) = if b.toNat = 34 then unqGo (t.length + 1) t [] 1 else none := rfl
theorem unqL_swap {l t : List UInt8} {k : Nat} (h : unqL l = some (t, k)) (x : List UInt8) : unqL (l.take k ++ x) = some (t, k) := by
  have hk := unqL_pos h
  rcases l with _ | ⟨b, r⟩
  · cases h
  · rw [unqL_cons] at h
    split at h
    · rename_i hb
      obtain ⟨j, hj⟩ : ∃ j, k = j + 1 := ⟨k - 1, by omega⟩
      subst hj
      rw [List.take_succ_cons, List.cons_append, unqL_cons, if_pos hb]
      have h1 := unqGo_swap _ _ _ _ _ _ x h
      have h2 := unqGo_fuel _ _ _ _ _ _ h1
      rw [show j + 1 - 1 = j by omega] at h1 h2
      refine unqGo_more _ _ _ _ _ _ ?_ h2
      rw [List.length_append, List.length_take]
      simp at hk
      omega
    · cases h

end Go.Proofs.YtnjdepojmnniaaaGreatDoor

/- Formulas as tokens: a token taken out of its text, places: plain. -/
namespace Go.Proofs.YtnjdepojmnniaaaGreatDoor
open Go

/-- What may stand behind a token, that it be the same one. -/
structure Fits (l : List UInt8) (k : Nat) (x : List UInt8) : Prop where
  num : clsL l = 2 → x = [] ∨ clsL x ≠ 2
  name : clsL l = 1 → x = [] ∨ (clsL x ≠ 1 ∧ clsL x ≠ 2)
  sign : x.head? = some 61 → (l.drop k).head? = some 61
theorem fits_space {l x : List UInt8} {k : Nat} (h : clsL x = 3) : Fits l k x :=
  ⟨fun _ => .inr (by omega), fun _ => .inr ⟨by omega, by omega⟩, fun h61 => by
    rcases x with _ | ⟨c, t⟩
    · cases h61
    · have hc : c = 61 := by simpa using h61
      subst hc
      unfold clsL at h
      rw [decode_byte 61 t (by decide)] at h
      exact absurd h (by decide)⟩
theorem head_dec {l : List UInt8} {c : UInt8} (h : l.head? = some c) (hc : c.toNat < 128) : (Lib.decodeL l).1 = c.toNat := by
  rcases l with _ | ⟨b, t⟩
  · cases h
  · have hb : b = c := by simpa using h
    subst hb
    rw [decode_byte b t hc]
theorem dec_head {l : List UInt8} (hl : l ≠ []) {c : Nat} (hc : c < 128) (h : (Lib.decodeL l).1 = c) : ∃ t, l = UInt8.ofNat c :: t := by
  have hb : ¬ badP l := fun hb => by have := hb.1; omega
  have he := Lib.encode_decode l hl hb
  rw [h, enc1 c hc] at he
  rcases l with _ | ⟨b, t⟩
  · exact absurd rfl hl
  · have hw : 1 ≤ (Lib.decodeL (b :: t)).2 := Lib.decodeL_width _
    obtain ⟨m, hm⟩ : ∃ m, (Lib.decodeL (b :: t)).2 = m + 1 := ⟨(Lib.decodeL (b :: t)).2 - 1, by omega⟩
    rw [hm, List.take_succ_cons] at he
    injection he with he _
    exact ⟨t, by rw [he]⟩
theorem one_swap {l : List UInt8} {t : TokD} {k : Nat} (hl : l ≠ []) (h : oneD l = some (t, k)) (h3 : clsL l ≠ 3) {x : List UInt8} (hf : Fits l k x) : oneD (l.take k ++ x) = some (t, k) ∧ clsL (l.take k ++ x) = clsL l := by
  have hk := oneD_pos hl h
  have hw := wid_pos l
  have hwl := wid_le hl
  by_cases c2 : clsL l = 2
  · have hnb : ¬ badP l := not_bad (by omega)
    unfold oneD at h
    rw [if_pos c2] at h
    split at h
    · rename_i hv
      injection h with h
      injection h with h1 h2
      have hr := runL_in (a := 2) (b := 2) hl (.inl c2)
      have hrl := runL_le 2 2 _ l (Nat.le_refl _)
      have hcl : clsL (l.take k ++ x) = 2 := by
        rw [take_take_app (n := wid l) (by omega) (by omega), cls_swap hl hnb]; exact c2
      have hrun : runL 2 2 (l.take k ++ x) = k := by
        rw [← h2]
        exact run_swap 2 2 (by decide) (by decide) _ l x (Nat.le_refl _) ((hf.num c2).imp id (fun h => by simpa using h))
      refine ⟨?_, hcl.trans c2.symm⟩
      unfold oneD
      rw [if_pos hcl, hrun, List.take_left' (by rw [List.length_take]; omega)]
      rw [h2] at hv h1
      rw [if_pos hv, h1]
    · cases h
  · by_cases c1 : clsL l = 1
    · have hnb : ¬ badP l := not_bad (by omega)
      unfold oneD at h
      rw [if_neg c2, if_pos c1] at h
      split at h
      · rename_i hv
        injection h with h
        injection h with h1 h2
        have hr := runL_in (a := 1) (b := 2) hl (.inl c1)
        have hrl := runL_le 1 2 _ l (Nat.le_refl _)
        have hcl : clsL (l.take k ++ x) = 1 := by
          rw [take_take_app (n := wid l) (by omega) (by omega), cls_swap hl hnb]; exact c1
        have hrun : runL 1 2 (l.take k ++ x) = k := by
          rw [← h2]
          refine run_swap 1 2 (by decide) (by decide) _ l x (Nat.le_refl _) ((hf.name c1).imp id (fun h => ?_))
          rintro (h' | h')
          · exact h.1 h'
          · exact h.2 h'
        refine ⟨?_, hcl.trans c1.symm⟩
        unfold oneD
        rw [if_neg (by omega), if_pos hcl, hrun, List.take_left' (by rw [List.length_take]; omega)]
        rw [h2] at hv h1
        rw [if_pos hv, h1]
      · cases h
    · unfold oneD at h
      rw [if_neg c2, if_neg c1] at h
      split at h
      · rename_i h34
        rcases hu : unqL l with _ | ⟨u, q⟩
        · rw [hu] at h; cases h
        · rw [hu] at h
          dsimp only at h
          split at h
          · rename_i hv
            injection h with h
            injection h with h1 h2
            subst h2
            have hd := head_dec h34 (by decide)
            have hcl : clsL (l.take q ++ x) = clsL l := by
              rw [take_take_app (n := wid l) (by have := (dec34 hl (by decide) hd).1; omega) (by omega), cls_swap hl (dec34 hl (by decide) hd).2]
            refine ⟨?_, hcl⟩
            unfold oneD
            have hh : (l.take q ++ x).head? = some 34 := by
              rcases l with _ | ⟨b, r⟩
              · cases h34
              · obtain ⟨m, hm⟩ : ∃ m, q = m + 1 := ⟨q - 1, by omega⟩
                rw [hm, List.take_succ_cons, List.cons_append]
                exact h34
            rw [hcl, if_neg c2, if_neg c1, if_pos hh, unqL_swap hu]
            dsimp only
            rw [if_pos hv, h1]
          · cases h
      · rename_i h34
        split at h
        · cases h
        · rename_i hs0
          injection h with h
          injection h with h1 h2
          rcases l with _ | ⟨c, r⟩
          · exact absurd rfl hl
          · have hcs : c.toNat < 128 := by
              rw [signL_cons] at hs0
              by_cases h61 : (c = 60 ∨ c = 62 ∨ c = 33) ∧ r.head? = some 61
              · rcases h61.1 with rfl | rfl | rfl <;> decide
              · rw [if_neg h61] at hs0
                by_cases hm : signs.contains c = true
                · have : ∀ c ∈ signs, c.toNat < 128 := by decide
                  exact this c (by simpa using hm)
                · rw [if_neg hm] at hs0; exact absurd rfl hs0
            have hd : (Lib.decodeL (c :: r)).1 = c.toNat := by rw [decode_byte c r hcs]
            obtain ⟨hw1, hnb⟩ := dec34 hl hcs hd
            have hcl : clsL ((c :: r).take k ++ x) = clsL (c :: r) := by
              rw [take_take_app (n := wid (c :: r)) (by omega) (by omega), cls_swap hl hnb]
            obtain ⟨m, hm⟩ : ∃ m, k = m + 1 := ⟨k - 1, by omega⟩
            have hsg : signL ((c :: r).take k ++ x) = k := by
              rw [hm, List.take_succ_cons, List.cons_append, signL_cons]
              rw [signL_cons] at h2
              by_cases h61 : (c = 60 ∨ c = 62 ∨ c = 33) ∧ r.head? = some 61
              · rw [if_pos h61] at h2
                obtain rfl : m = 1 := by omega
                rcases r with _ | ⟨d, r⟩
                · simp at h61
                · rw [if_pos ⟨h61.1, by simpa using h61.2⟩]
              · rw [if_neg h61] at h2
                by_cases hcm : signs.contains c = true
                · rw [if_pos hcm] at h2
                  obtain rfl : m = 0 := by omega
                  have hx : ¬ ((c = 60 ∨ c = 62 ∨ c = 33) ∧ (r.take 0 ++ x).head? = some 61) := by
                    rintro ⟨hc, hh⟩
                    rw [List.take_zero, List.nil_append] at hh
                    have := hf.sign hh
                    rw [hm] at this
                    exact h61 ⟨hc, by simpa using this⟩
                  rw [if_neg hx, if_pos hcm]
                · rw [if_neg hcm] at h2; omega
            have hh : ((c :: r).take k ++ x).head? ≠ some 34 := by
              rw [hm, List.take_succ_cons, List.cons_append]
              exact h34
            refine ⟨?_, hcl⟩
            unfold oneD
            rw [hcl, if_neg c2, if_neg c1, if_neg hh, hsg, if_neg (by omega), List.take_left' (by rw [List.length_take]; omega), ← h1, h2]

end Go.Proofs.YtnjdepojmnniaaaGreatDoor

/- Formulas as tokens: cuts, joins, blanks: plain. -/
namespace Go.Proofs.YtnjdepojmnniaaaGreatDoor
open Go

theorem one_text {l : List UInt8} {t : TokD} {k : Nat} (hl : l ≠ []) (h : oneD l = some (t, k)) : t.kind ≠ 0 ∧ ((t.kind = 3 ∨ t.kind = 4) → t.s = l.take k) := by
  unfold oneD at h
  split at h
  · split at h
    · injection h with h
      injection h with h _
      subst h
      exact ⟨by simp, fun h => by simp at h⟩
    · cases h
  · split at h
    · split at h
      · injection h with h
        injection h with h h2
        subst h
        exact ⟨by simp, fun _ => by rw [h2]⟩
      · cases h
    · split at h
      · rcases hu : unqL l with _ | ⟨u, q⟩
        · rw [hu] at h; cases h
        · rw [hu] at h
          dsimp only at h
          split at h
          · injection h with h
            injection h with h _
            subst h
            exact ⟨by simp, fun h => by simp at h⟩
          · cases h
      · split at h
        · cases h
        · injection h with h
          injection h with h h2
          subst h
          exact ⟨by simp, fun _ => by rw [h2]⟩

/-- Bytes that are blanks alone. -/
def Blank (W : List UInt8) : Prop := ∀ x q, lexL (W ++ x) q = lexL x (q + W.length) ∧ (W ≠ [] → clsL (W ++ x) = 3)
theorem Blank.nil : Blank [] := fun x q => ⟨by simp, fun h => absurd rfl h⟩
theorem Blank.app {W V : List UInt8} (h : Blank W) (g : Blank V) : Blank (W ++ V) := fun x q => by
  refine ⟨?_, fun hn => ?_⟩
  · rw [List.append_assoc, (h _ q).1, (g x _).1, List.length_append, Nat.add_assoc]
  · rw [List.append_assoc]
    by_cases hW : W = []
    · subst hW
      rw [List.nil_append]
      exact (g x q).2 (by simpa using hn)
    · exact (h _ q).2 hW
theorem Blank.piece {l : List UInt8} (hl : l ≠ []) (hc : clsL l = 3) : Blank (l.take (wid l)) := fun x q => by
  have hnb : ¬ badP l := not_bad (by omega)
  have hw := wid_le hl
  have hp := wid_pos l
  have hlen : (l.take (wid l)).length = wid l := by rw [List.length_take]; omega
  have hne : l.take (wid l) ++ x ≠ [] := by
    intro h
    have := congrArg List.length (List.append_eq_nil_iff.1 h).1
    rw [hlen, List.length_nil] at this
    omega
  have hc2 : clsL (l.take (wid l) ++ x) = 3 := by rw [cls_swap hl hnb]; exact hc
  refine ⟨?_, fun _ => hc2⟩
  rw [lexL_space hne hc2, wid_swap hl hnb, drop_swap hw, hlen]
theorem Blank.byte {c : UInt8} (h : c = 32 ∨ c = 9 ∨ c = 10) : Blank [c] := by
  have hd : Lib.decodeL [c] = (c.toNat, 1) := decode_byte c [] (by rcases h with rfl | rfl | rfl <;> decide)
  have hw : wid [c] = 1 := by unfold wid; rw [hd]
  have := Blank.piece (l := [c]) (by simp) (by unfold clsL; rw [hd]; rcases h with rfl | rfl | rfl <;> decide)
  rw [hw] at this
  exact this

/-- The tokens of L, each with its bytes, and the blanks behind it. -/
def Segs (L : List UInt8) : List TokD → Prop
  | [] => False
  | [t] => t = ⟨0, [], 0, L.length⟩
  | t :: u :: r => (∃ t0 k, oneD (L.drop t.at_) = some (t0, k) ∧ t = { t0 with at_ := t.at_ } ∧ L.drop t.at_ ≠ [] ∧ clsL (L.drop t.at_) ≠ 3 ∧ t.at_ + k ≤ u.at_ ∧ u.at_ ≤ L.length ∧ Blank ((L.drop (t.at_ + k)).take (u.at_ - (t.at_ + k)))) ∧ Segs L (u :: r)
theorem lex_segs (L : List UInt8) : ∀ (n p : Nat) (ts : List TokD), L.length - p ≤ n → p ≤ L.length → lexL (L.drop p) p = .ok ts → ∃ t r, ts = t :: r ∧ p ≤ t.at_ ∧ t.at_ ≤ L.length ∧ Blank ((L.drop p).take (t.at_ - p)) ∧ Segs L ts := by
  intro n
  induction n with
  | zero =>
    intro p ts hn hp h
    have hz : L.drop p = [] := List.drop_of_length_le (by omega)
    rw [hz, lexL_nil] at h
    injection h with h
    subst h
    obtain rfl : p = L.length := by omega
    exact ⟨_, [], rfl, Nat.le_refl _, Nat.le_refl _, by rw [Nat.sub_self, List.take_zero]; exact Blank.nil, rfl⟩
  | succ n ih =>
    intro p ts hn hp h
    by_cases hl : L.drop p = []
    · have hpl : L.length ≤ p := by simpa using hl
      rw [hl, lexL_nil] at h
      injection h with h
      subst h
      obtain rfl : p = L.length := by omega
      exact ⟨_, [], rfl, Nat.le_refl _, Nat.le_refl _, by rw [Nat.sub_self, List.take_zero]; exact Blank.nil, rfl⟩
    · have hlt : p < L.length := by
        rcases Nat.lt_or_ge p L.length with h | h
        · exact h
        · exact absurd (List.drop_of_length_le h) hl
      have hw := wid_le hl
      have hwp := wid_pos (L.drop p)
      rw [List.length_drop] at hw
      by_cases hc : clsL (L.drop p) = 3
      · rw [lexL_space hl hc, List.drop_drop] at h
        obtain ⟨t, r, h1, h2, h3, h4, h5⟩ := ih (p + wid (L.drop p)) ts (by omega) (by omega) h
        refine ⟨t, r, h1, by omega, h3, ?_, h5⟩
        have e : (L.drop p).take (t.at_ - p) = (L.drop p).take (wid (L.drop p)) ++ (L.drop (p + wid (L.drop p))).take (t.at_ - (p + wid (L.drop p))) := by
          rw [← List.drop_drop, ← List.take_add]
          congr 1
          omega
        rw [e]
        exact (Blank.piece hl hc).app h4
      · rcases ho : oneD (L.drop p) with _ | ⟨t0, k⟩
        · rw [lexL_bad hl hc ho] at h; cases h
        · have hk := oneD_pos hl ho
          rw [List.length_drop] at hk
          rw [lexL_tok hl hc ho, List.drop_drop] at h
          rcases hr : lexL (L.drop (p + k)) (p + k) with q | us
          · rw [hr] at h; cases h
          · rw [hr] at h
            dsimp only at h
            injection h with h
            subst h
            obtain ⟨t, r, h1, h2, h3, h4, h5⟩ := ih (p + k) us (by omega) (by omega) hr
            subst h1
            refine ⟨_, _, rfl, Nat.le_refl _, by omega, by rw [Nat.sub_self, List.take_zero]; exact Blank.nil, ⟨⟨t0, k, ho, rfl, hl, hc, h2, h3, h4⟩, h5⟩⟩
theorem lex_err (L : List UInt8) : ∀ (n p q : Nat), L.length - p ≤ n → p ≤ L.length → lexL (L.drop p) p = .error q → p ≤ q ∧ q ≤ L.length := by
  intro n
  induction n with
  | zero =>
    intro p q hn hp h
    have hz : L.drop p = [] := List.drop_of_length_le (by omega)
    rw [hz, lexL_nil] at h
    cases h
  | succ n ih =>
    intro p q hn hp h
    by_cases hl : L.drop p = []
    · rw [hl, lexL_nil] at h
      cases h
    · have hw := wid_le hl
      have hwp := wid_pos (L.drop p)
      have hpos := List.length_pos_iff.2 hl
      rw [List.length_drop] at hw hpos
      by_cases hc : clsL (L.drop p) = 3
      · rw [lexL_space hl hc, List.drop_drop] at h
        have := ih (p + wid (L.drop p)) q (by omega) (by omega) h
        omega
      · rcases ho : oneD (L.drop p) with _ | ⟨t0, k⟩
        · rw [lexL_bad hl hc ho] at h
          injection h with h
          omega
        · have hk := oneD_pos hl ho
          rw [List.length_drop] at hk
          rw [lexL_tok hl hc ho, List.drop_drop] at h
          rcases hr : lexL (L.drop (p + k)) (p + k) with q' | us
          · rw [hr] at h
            injection h with h
            subst h
            have := ih (p + k) q' (by omega) (by omega) hr
            omega
          · rw [hr] at h; cases h

/-- A token's segment, and a blank behind it, is that token. -/
def endAt (L : List UInt8) : List TokD → Nat
  | [] => L.length
  | u :: _ => u.at_
def spread (L : List UInt8) : List TokD → List (List UInt8) → List UInt8
  | t :: r, b :: bs => (L.drop t.at_).take (endAt L r - t.at_) ++ b ++ spread L r bs
  | _, _ => []
def respread (L : List UInt8) : List TokD → List (List UInt8) → Nat → List TokD
  | [t], b :: _, q => [{ t with at_ := q + b.length }]
  | t :: u :: r, b :: bs, q => { t with at_ := q } :: respread L (u :: r) bs (q + (u.at_ - t.at_) + b.length)
  | _, _, _ => []
theorem spread_lex (L : List UInt8) : ∀ (ts : List TokD) (bs : List (List UInt8)) (q : Nat), Segs L ts → bs.length = ts.length → (∀ b ∈ bs, Blank b ∧ b ≠ []) → lexL (spread L ts bs) q = .ok (respread L ts bs q)
  | [], _, _, h, _, _ => h.elim
  | _ :: _, [], _, _, hb, _ => by simp at hb
  | [t], b :: bs, q, h, hb, hB => by
    have ht : t = ⟨0, [], 0, L.length⟩ := h
    subst ht
    have hs : spread L [⟨0, [], 0, L.length⟩] (b :: bs) = b ++ [] := by
      show (L.drop L.length).take (L.length - L.length) ++ b ++ spread L [] bs = b ++ []
      rw [Nat.sub_self, List.take_zero]
      cases bs <;> rfl
    rw [hs, ((hB b (by simp)).1 [] q).1, lexL_nil]
    rfl
  | t :: u :: r, b :: bs, q, h, hb, hB => by
    obtain ⟨⟨t0, k, ho, ht, hl, hc, h1, h2, hW⟩, hS⟩ := h
    have hk := oneD_pos hl ho
    obtain ⟨hb1, hb2⟩ := hB b (by simp)
    have e : spread L (t :: u :: r) (b :: bs) = (L.drop t.at_).take k ++ (((L.drop (t.at_ + k)).take (u.at_ - (t.at_ + k)) ++ b) ++ spread L (u :: r) bs) := by
      show (L.drop t.at_).take (u.at_ - t.at_) ++ b ++ spread L (u :: r) bs = _
      have e2 : (L.drop t.at_).take (u.at_ - t.at_) = (L.drop t.at_).take k ++ (L.drop (t.at_ + k)).take (u.at_ - (t.at_ + k)) := by
        rw [← List.drop_drop, ← List.take_add]
        congr 1
        omega
      rw [e2]
      simp only [List.append_assoc]
    have hBl : Blank ((L.drop (t.at_ + k)).take (u.at_ - (t.at_ + k)) ++ b) := hW.app hb1
    have hne : (L.drop (t.at_ + k)).take (u.at_ - (t.at_ + k)) ++ b ≠ [] := by simp [hb2]
    have hx := fun q' => hBl (spread L (u :: r) bs) q'
    have hlen : ((L.drop t.at_).take k).length = k := by rw [List.length_take]; omega
    obtain ⟨s1, s2⟩ := one_swap hl ho hc (fits_space (l := L.drop t.at_) (k := k) ((hx 0).2 hne))
    have hne2 : (L.drop t.at_).take k ++ (((L.drop (t.at_ + k)).take (u.at_ - (t.at_ + k)) ++ b) ++ spread L (u :: r) bs) ≠ [] := by
      intro h0
      have := congrArg List.length (List.append_eq_nil_iff.1 h0).1
      rw [hlen, List.length_nil] at this
      omega
    rw [e, lexL_tok hne2 (by rw [s2]; exact hc) s1, List.drop_left' hlen, (hx (q + k)).1, spread_lex L (u :: r) bs _ hS (by simpa using hb) (fun b' h' => hB b' (by simp [h']))]
    dsimp only
    have hWl : ((L.drop (t.at_ + k)).take (u.at_ - (t.at_ + k)) ++ b).length = (u.at_ - (t.at_ + k)) + b.length := by
      rw [List.length_append, List.length_take, List.length_drop]
      omega
    rw [hWl, show q + k + (u.at_ - (t.at_ + k) + b.length) = q + (u.at_ - t.at_) + b.length by omega]
    show _ = Except.ok ({ t with at_ := q } :: _)
    rw [ht]

end Go.Proofs.YtnjdepojmnniaaaGreatDoor
