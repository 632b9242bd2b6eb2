/- Formulas as tokens: what a token's own bytes decide: plain. -/
import Derived.Test.YtdpbjdkkaekebaaDoorLxD
namespace Go.Proofs.YtdpbjdkkaekebaaDoor
open Go

/-- The piece ahead is a byte that is none. -/
def badP (l : List UInt8) : Prop := (Lib.decodeL l).1 = 65533 ∧ (Lib.decodeL l).2 = 1
theorem cls_bad {l : List UInt8} (h : badP l) : clsL l = 0 := by unfold clsL; rw [h.1]; rfl
theorem dec_swap {l : List UInt8} (hl : l ≠ []) (hb : ¬ badP l) (x : List UInt8) : Lib.decodeL (l.take (wid l) ++ x) = Lib.decodeL l := by
  have he := Lib.encode_decode l hl hb
  have hd := decode_encode (Lib.decodeL l).1 (decodeL_valid l) x
  unfold wid
  rw [he] at hd
  rw [hd]
  refine Prod.ext rfl ?_
  show ((l.take (Lib.decodeL l).2).length) = _
  rw [List.length_take]
  have := Lib.decodeL_le l hl
  omega
theorem cls_swap {l : List UInt8} (hl : l ≠ []) (hb : ¬ badP l) (x : List UInt8) : clsL (l.take (wid l) ++ x) = clsL l := by unfold clsL; rw [dec_swap hl hb]
theorem wid_swap {l : List UInt8} (hl : l ≠ []) (hb : ¬ badP l) (x : List UInt8) : wid (l.take (wid l) ++ x) = wid l := by
  show (Lib.decodeL (l.take (wid l) ++ x)).2 = wid l
  rw [dec_swap hl hb]; rfl
theorem not_bad {l : List UInt8} (h : clsL l ≠ 0) : ¬ badP l := fun hb => h (cls_bad hb)
theorem take_take_app {l x : List UInt8} {n m : Nat} (h : n ≤ m) (hm : m ≤ l.length) : l.take m ++ x = l.take n ++ ((l.drop n).take (m - n) ++ x) := by
  rw [← List.append_assoc]
  congr 1
  have : l.take m = l.take (n + (m - n)) := by congr 1; omega
  rw [this, List.take_add]
theorem drop_swap {l x : List UInt8} {n : Nat} (hn : n ≤ l.length) : (l.take n ++ x).drop n = x := by
  rw [List.drop_left']
  rw [List.length_take]; omega
theorem run_swap (a b : Nat) (ha : a ≠ 0) (hb : b ≠ 0) : ∀ (n : Nat) (l x : List UInt8), l.length ≤ n → (x = [] ∨ ¬ (clsL x = a ∨ clsL x = b)) → runL a b (l.take (runL a b l) ++ x) = runL a b l
  | 0, l, x, h, hx => by
    obtain rfl : l = [] := List.eq_nil_of_length_eq_zero (by omega)
    rw [runL_nil]
    rcases hx with rfl | hx
    · exact runL_nil a b
    · exact runL_out hx
  | n + 1, l, x, h, hx => by
    by_cases hl : l = []
    · subst hl
      rw [runL_nil]
      rcases hx with rfl | hx
      · exact runL_nil a b
      · exact runL_out hx
    · by_cases hc : clsL l = a ∨ clsL l = b
      · have hnb : ¬ badP l := not_bad (by rcases hc with h | h <;> omega)
        have hw := wid_le hl
        have hp := wid_pos l
        have hr := runL_le a b _ (l.drop (wid l)) (Nat.le_refl _)
        rw [List.length_drop] at hr
        have hpos := List.length_pos_iff.2 hl
        rw [runL_in hl hc, take_take_app (n := wid l) (by omega) (by omega)]
        rw [show wid l + runL a b (l.drop (wid l)) - wid l = runL a b (l.drop (wid l)) by omega]
        have hne : l.take (wid l) ++ ((l.drop (wid l)).take (runL a b (l.drop (wid l))) ++ x) ≠ [] := by
          intro h0
          have := (List.append_eq_nil_iff.1 h0).1
          have h1 := congrArg List.length this
          rw [List.length_take, List.length_nil] at h1
          omega
        rw [runL_in hne (by rw [cls_swap hl hnb]; exact hc), wid_swap hl hnb, drop_swap hw, run_swap a b ha hb n _ x (by rw [List.length_drop]; omega) hx]
      · rw [runL_out hc, List.take_zero, List.nil_append]
        rcases hx with rfl | hx
        · exact runL_nil a b
        · exact runL_out hx
theorem escL_swap {l : List UInt8} (h : (escL l).2 ≠ 0) (x : List UInt8) : escL (l.take (escL l).2 ++ x) = escL l := by
  match l with
  | [] => simp [escL] at h
  | [_] => simp [escL] at h
  | a :: b :: t =>
    by_cases h1 : b.toNat = 34 ∨ b.toNat = 92
    · rw [escL_sign h1]
      show escL (a :: b :: x) = _
      rw [escL_sign h1]
    · by_cases h2 : b.toNat = 117
      · by_cases h4 : 4 ≤ t.length
        · have e := escL_hx (a := a) h1 h2 h4
          rw [e] at h ⊢
          rcases hh : hx (t.take 4) 0 with _ | v
          · rw [hh] at h; simp at h
          · rw [hh] at h
            dsimp only at h ⊢
            split at h
            · simp at h
            · rename_i hs
              rw [if_neg hs]
              show escL (a :: b :: (t.take 4 ++ x)) = _
              rw [escL_hx h1 h2 (by rw [List.length_append, List.length_take]; omega), List.take_left' (by rw [List.length_take]; omega), hh]
              dsimp only
              rw [if_neg hs]
        · rw [escL_short h1 (by omega)] at h; simp at h
      · rw [escL_no h1 h2] at h; simp at h
theorem dec34 {l : List UInt8} (hl : l ≠ []) {c : Nat} (hc : c < 128) (h : (Lib.decodeL l).1 = c) : wid l = 1 ∧ ¬ badP l := by
  have hb : ¬ badP l := fun hb => by have := hb.1; omega
  have he := Lib.encode_decode l hl hb
  refine ⟨?_, hb⟩
  rw [h, enc1 c hc] at he
  have h1 := congrArg List.length he
  rw [List.length_take] at h1
  have h2 := Lib.decodeL_le l hl
  simp at h1
  unfold wid
  omega
theorem unqGo_swap : ∀ (f : Nat) (l acc : List UInt8) (p : Nat) (t : List UInt8) (q : Nat) (x : List UInt8), unqGo f l acc p = some (t, q) → unqGo f (l.take (q - p) ++ x) acc p = some (t, q)
  | 0, _, _, _, _, _, _, h => by cases h
  | f + 1, l, acc, p, t, q, x, h => by
    have hpos := unqGo_pos _ _ _ _ _ _ h
    have h0 := h
    rw [unqGo_succ] at h
    by_cases hne : l = []
    · rw [if_pos hne] at h; cases h
    rw [if_neg hne] at h
    have hlp := List.length_pos_iff.2 hne
    have ne' : l.take (q - p) ++ x ≠ [] := by
      intro h1
      have h2 := congrArg List.length (List.append_eq_nil_iff.1 h1).1
      rw [List.length_take, List.length_nil] at h2
      omega
    have hwl := wid_le hne
    rw [unqGo_succ, if_neg ne']
    split at h
    · rename_i hq
      obtain ⟨hw1, hnb⟩ := dec34 hne (by omega) hq
      injection h with h
      injection h with ha hb
      have e : l.take (q - p) ++ x = l.take (wid l) ++ x := by rw [hw1, show q - p = 1 by omega]
      rw [e, dec_swap hne hnb, if_pos hq, ha, hb]
    · rename_i h34
      split at h
      · rename_i h92
        obtain ⟨hw1, hnb⟩ := dec34 hne (by omega) h92
        split at h
        · cases h
        · rename_i hes
          have hel := escL_le l
          have hp2 := unqGo_pos _ _ _ _ _ _ h
          have e1 : l.take (q - p) ++ x = l.take (wid l) ++ ((l.drop (wid l)).take (q - p - wid l) ++ x) := take_take_app (by rw [hw1]; omega) (by omega)
          have e2 : l.take (q - p) ++ x = l.take (escL l).2 ++ ((l.drop (escL l).2).take (q - p - (escL l).2) ++ x) := take_take_app (by omega) (by omega)
          have d1 : Lib.decodeL (l.take (q - p) ++ x) = Lib.decodeL l := by rw [e1, dec_swap hne hnb]
          have d2 : escL (l.take (q - p) ++ x) = escL l := by rw [e2, escL_swap hes]
          rw [d1, if_neg h34, if_pos h92, d2, if_neg hes]
          have d3 : (l.take (q - p) ++ x).drop (escL l).2 = (l.drop (escL l).2).take (q - (p + (escL l).2)) ++ x := by
            rw [e2, drop_swap (by omega), show q - p - (escL l).2 = q - (p + (escL l).2) by omega]
          rw [d3]
          exact unqGo_swap f _ _ _ t q x h
      · rename_i h92
        split at h
        · cases h
        · rename_i hbd
          have hnb : ¬ badP l := fun hb => hbd (.inl hb)
          have hp2 := unqGo_pos _ _ _ _ _ _ h
          have hw2 : wid l = (Lib.decodeL l).2 := rfl
          have e1 : l.take (q - p) ++ x = l.take (wid l) ++ ((l.drop (wid l)).take (q - p - wid l) ++ x) := take_take_app (by omega) (by omega)
          have d1 : Lib.decodeL (l.take (q - p) ++ x) = Lib.decodeL l := by rw [e1, dec_swap hne hnb]
          rw [d1, if_neg h34, if_neg h92, if_neg hbd]
          have d3 : (l.take (q - p) ++ x).drop (Lib.decodeL l).2 = (l.drop (Lib.decodeL l).2).take (q - (p + (Lib.decodeL l).2)) ++ x := by
            rw [e1, ← hw2, drop_swap hwl, show q - p - wid l = q - (p + wid l) by omega]
          rw [d3]
          exact unqGo_swap f _ _ _ t q x h
theorem unqGo_more : ∀ (f g : Nat) (l acc : List UInt8) (p : Nat) (r : List UInt8 × Nat), f ≤ g → unqGo f l acc p = some r → unqGo g l acc p = some r
  | 0, _, _, _, _, _, _, h => by cases h
  | f + 1, 0, _, _, _, _, hg, _ => by omega
  | f + 1, g + 1, l, acc, p, r, hg, h => by
    rw [unqGo_succ] at h ⊢
    split at h
    · cases h
    · rename_i h1
      rw [if_neg h1]
      split at h
      · rename_i h2
        rw [if_pos h2]; exact h
      · rename_i h2
        rw [if_neg h2]
        split at h
        · rename_i h3
          rw [if_pos h3]
          split at h
          · cases h
          · rename_i h4
            rw [if_neg h4]
            exact unqGo_more f g _ _ _ r (by omega) h
        · rename_i h3
          rw [if_neg h3]
          split at h
          · cases h
          · rename_i h4
            rw [if_neg h4]
            exact unqGo_more f g _ _ _ r (by omega) h
/-- How much fuel a text needs that is read. -/
theorem unqGo_fuel : ∀ (f : Nat) (l acc : List UInt8) (p : Nat) (t : List UInt8) (q : Nat), unqGo f l acc p = some (t, q) → unqGo (q - p) l acc p = some (t, q)
  | 0, _, _, _, _, _, h => by cases h
  | f + 1, l, acc, p, t, q, h => by
    have hpos := unqGo_pos _ _ _ _ _ _ h
    obtain ⟨d, hd⟩ : ∃ d, q - p = d + 1 := ⟨q - p - 1, by omega⟩
    rw [hd]
    rw [unqGo_succ] at h ⊢
    split at h
    · cases h
    · rename_i h1
      rw [if_neg h1]
      split at h
      · rename_i h2
        rw [if_pos h2]; exact h
      · rename_i h2
        rw [if_neg h2]
        split at h
        · rename_i h3
          rw [if_pos h3]
          split at h
          · cases h
          · rename_i h4
            rw [if_neg h4]
            have hp := unqGo_pos _ _ _ _ _ _ h
            have he := escL_le l
            exact unqGo_more _ d _ _ _ _ (by omega) (unqGo_fuel f _ _ _ t q h)
        · rename_i h3
          rw [if_neg h3]
          split at h
          · cases h
          · rename_i h4
            rw [if_neg h4]
            have hp := unqGo_pos _ _ _ _ _ _ h
            have hw := Lib.decodeL_width l
            exact unqGo_more _ d _ _ _ _ (by omega) (unqGo_fuel f _ _ _ t q h)
theorem unqL_cons (b : UInt8) (t : List UInt8) : unqL (b :: t) = if b.toNat = 34 then unqGo (t.length + 1) t [] 1 else none := rfl
theorem unqL_swap {l t : List UInt8} {k : Nat} (h : unqL l = some (t, k)) (x : List UInt8) : unqL (l.take k ++ x) = some (t, k) := by
  have hk := unqL_pos h
  rcases l with _ | ⟨b, r⟩
  · cases h
  · rw [unqL_cons] at h
    split at h
    · rename_i hb
      obtain ⟨j, hj⟩ : ∃ j, k = j + 1 := ⟨k - 1, by omega⟩
      subst hj
      rw [List.take_succ_cons, List.cons_append, unqL_cons, if_pos hb]
      have h1 := unqGo_swap _ _ _ _ _ _ x h
      have h2 := unqGo_fuel _ _ _ _ _ _ h1
      rw [show j + 1 - 1 = j by omega] at h1 h2
      refine unqGo_more _ _ _ _ _ _ ?_ h2
      rw [List.length_append, List.length_take]
      simp at hk
      omega
    · cases h

end Go.Proofs.YtdpbjdkkaekebaaDoor
