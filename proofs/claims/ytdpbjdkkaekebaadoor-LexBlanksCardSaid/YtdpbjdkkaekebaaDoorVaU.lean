/- What is shown of a value, rune by rune: plain. -/
import Derived.Test.YtdpbjdkkaekebaaDoorVaQ
import Derived.Lib.ItoaLen
import Derived.Lib.Small
namespace Go.Proofs.YtdpbjdkkaekebaaDoor
open Go

theorem decodeN_valid (n b0 b1 b2 b3 : Nat) : (Lib.decodeN n b0 b1 b2 b3).1 < 55296 ∨ (57344 ≤ (Lib.decodeN n b0 b1 b2 b3).1 ∧ (Lib.decodeN n b0 b1 b2 b3).1 ≤ 1114111) := by
  unfold Lib.decodeN
  repeat' split
  all_goals simp only
  all_goals omega
theorem decodeL_valid (l : List UInt8) : (Lib.decodeL l).1 < 55296 ∨ (57344 ≤ (Lib.decodeL l).1 ∧ (Lib.decodeL l).1 ≤ 1114111) := by
  rw [Lib.decodeL_N]; exact decodeN_valid _ _ _ _ _

theorem nat_byte (n : Nat) (h : n < 256) : ((n : Int).toNat.toUInt8).toNat = n := by
  simp
  omega
theorem enc1 (r : Nat) (h : r < 128) : Lib.encodeRune (r : Int) = [UInt8.ofNat r] := by
  unfold Lib.encodeRune
  rw [Lib.encodeRuneZ_one (by omega) (by omega)]
  simp
theorem enc2 (r : Nat) (h0 : 128 ≤ r) (h1 : r ≤ 2047) : Lib.encodeRune (r : Int) = [UInt8.ofNat (192 + r / 64), UInt8.ofNat (128 + r % 64)] := by
  unfold Lib.encodeRune
  rw [Lib.encodeRuneZ_two (by omega) (by omega)]
  rw [show (192 + (r : Int) / 64) = ((192 + r / 64 : Nat) : Int) by omega, show (128 + (r : Int) % 64) = ((128 + r % 64 : Nat) : Int) by omega]
  rfl
theorem enc3 (r : Nat) (h : (2048 ≤ r ∧ r < 55296) ∨ (57343 < r ∧ r ≤ 65535)) : Lib.encodeRune (r : Int) = [UInt8.ofNat (224 + r / 4096), UInt8.ofNat (128 + r / 64 % 64), UInt8.ofNat (128 + r % 64)] := by
  unfold Lib.encodeRune
  rw [Lib.encodeRuneZ_three (by omega)]
  rw [show (224 + (r : Int) / 4096) = ((224 + r / 4096 : Nat) : Int) by omega, show (128 + (r : Int) / 64 % 64) = ((128 + r / 64 % 64 : Nat) : Int) by omega, show (128 + (r : Int) % 64) = ((128 + r % 64 : Nat) : Int) by omega]
  rfl
theorem enc4 (r : Nat) (h0 : 65536 ≤ r) (h1 : r ≤ 1114111) : Lib.encodeRune (r : Int) = [UInt8.ofNat (240 + r / 262144), UInt8.ofNat (128 + r / 4096 % 64), UInt8.ofNat (128 + r / 64 % 64), UInt8.ofNat (128 + r % 64)] := by
  unfold Lib.encodeRune
  rw [Lib.encodeRuneZ_four (by omega) (by omega)]
  rw [show (240 + (r : Int) / 262144) = ((240 + r / 262144 : Nat) : Int) by omega, show (128 + (r : Int) / 4096 % 64) = ((128 + r / 4096 % 64 : Nat) : Int) by omega, show (128 + (r : Int) / 64 % 64) = ((128 + r / 64 % 64 : Nat) : Int) by omega, show (128 + (r : Int) % 64) = ((128 + r % 64 : Nat) : Int) by omega]
  rfl
theorem ofNat_toNat (n : Nat) (h : n < 256) : (UInt8.ofNat n).toNat = n := by
  simp
  omega
/-- A rune that was written is read again. -/
theorem decode_encode (r : Nat) (hv : r < 55296 ∨ (57344 ≤ r ∧ r ≤ 1114111)) (t : List UInt8) : Lib.decodeL (Lib.encodeRune (r : Int) ++ t) = (r, (Lib.encodeRune (r : Int)).length) := by
  rw [Lib.decodeL_N]
  by_cases h1 : r < 128
  · rw [enc1 r h1]
    simp only [List.cons_append, List.nil_append, List.getD_cons_zero]
    rw [Lib.decodeN_ascii _ _ _ _ _ (by rw [ofNat_toNat _ (by omega)]; exact h1), ofNat_toNat _ (by omega)]
    rfl
  by_cases h2 : r ≤ 2047
  · rw [enc2 r (by omega) h2]
    simp only [List.cons_append, List.nil_append, List.getD_cons_zero, List.getD_cons_succ, List.length_cons]
    rw [ofNat_toNat _ (by omega), ofNat_toNat _ (by omega), decN2 _ _ _ _ _ (by omega) (by omega), if_pos (by omega)]
    exact Prod.ext (by show (192 + r / 64 - 192) * 64 + (128 + r % 64 - 128) = r; omega) rfl
  by_cases h3 : r ≤ 65535
  · rw [enc3 r (by omega)]
    simp only [List.cons_append, List.nil_append, List.getD_cons_zero, List.getD_cons_succ, List.length_cons]
    rw [ofNat_toNat _ (by omega), ofNat_toNat _ (by omega), ofNat_toNat _ (by omega), decN3 _ _ _ _ _ (by omega) (by omega) (by omega)]
    have e : ((224 + r / 4096 - 224) * 64 + (128 + r / 64 % 64 - 128)) * 64 + (128 + r % 64 - 128) = r := by omega
    rw [e, if_pos ⟨by omega, by omega, by unfold ok3; omega⟩]
    rfl
  · rw [enc4 r (by omega) (by omega)]
    simp only [List.cons_append, List.nil_append, List.getD_cons_zero, List.getD_cons_succ, List.length_cons]
    rw [ofNat_toNat _ (by omega), ofNat_toNat _ (by omega), ofNat_toNat _ (by omega), ofNat_toNat _ (by omega), decN4 _ _ _ _ _ (by omega) (by omega) (by omega) (by omega)]
    have e : (((240 + r / 262144 - 240) * 64 + (128 + r / 4096 % 64 - 128)) * 64 + (128 + r / 64 % 64 - 128)) * 64 + (128 + r % 64 - 128) = r := by omega
    rw [e, if_pos ⟨by omega, by omega, by omega, by unfold ok4; omega⟩]
    rfl

/-- No piece is a byte that is none, no piece is a control. -/
def okGo : Nat → List UInt8 → Bool
  | 0, _ => true
  | f + 1, l => if l = [] then true else !badL l && (!ctlR (Lib.decodeL l).1 && okGo f (l.drop (Lib.decodeL l).2))
def okL (l : List UInt8) : Bool := okGo l.length l
theorem okGo_nil : ∀ f, okGo f [] = true
  | 0 => rfl
  | _ + 1 => by simp [okGo]
theorem okGo_fuel : ∀ (f g : Nat) (l : List UInt8), l.length ≤ f → l.length ≤ g → okGo f l = okGo g l
  | 0, g, l, hf, _ => by
    obtain rfl : l = [] := List.eq_nil_of_length_eq_zero (by omega)
    rw [okGo_nil, okGo_nil]
  | f + 1, 0, l, _, hg => by
    obtain rfl : l = [] := List.eq_nil_of_length_eq_zero (by omega)
    rw [okGo_nil, okGo_nil]
  | f + 1, g + 1, l, hf, hg => by
    unfold okGo
    by_cases hne : l = []
    · simp [hne]
    · have hw := Lib.decodeL_width l
      have hl : 0 < l.length := List.length_pos_iff.2 hne
      rw [if_neg hne, if_neg hne, okGo_fuel f g (l.drop (Lib.decodeL l).2) (by rw [List.length_drop]; omega) (by rw [List.length_drop]; omega)]
theorem okL_step {l : List UInt8} (hne : l ≠ []) : okL l = (!badL l && (!ctlR (Lib.decodeL l).1 && okL (l.drop (Lib.decodeL l).2))) := by
  have hl : 0 < l.length := List.length_pos_iff.2 hne
  have hw := Lib.decodeL_width l
  obtain ⟨n, hn⟩ : ∃ n, l.length = n + 1 := ⟨l.length - 1, by omega⟩
  unfold okL
  rw [hn]
  show (if l = [] then true else _) = _
  rw [if_neg hne, okGo_fuel n (l.drop (Lib.decodeL l).2).length _ (by rw [List.length_drop]; omega) (Nat.le_refl _)]
theorem pcs_ok : ∀ (f p : Nat) (l : List UInt8), (pcs f p l).all (fun x => !x.bad && !ctlR x.r) = okGo f l
  | 0, _, _ => rfl
  | f + 1, p, l => by
    unfold pcs okGo
    by_cases hne : l = []
    · simp [hne]
    · rw [if_neg hne, if_neg hne, List.all_cons, pcs_ok f, Bool.and_assoc]
theorem pieces_ok (l : List UInt8) : (pieces l).all (fun x => !x.bad && !ctlR x.r) = okL l := pcs_ok _ _ _
theorem okL_rune (r : Nat) (hv : r < 55296 ∨ (57344 ≤ r ∧ r ≤ 1114111)) (t : List UInt8) : okL (Lib.encodeRune (r : Int) ++ t) = (!ctlR r && okL t) := by
  have hln := Lib.runeCells_le (r : Int)
  rw [Lib.runeCells_length] at hln
  have hne : Lib.encodeRune (r : Int) ++ t ≠ [] := by
    intro h
    have := congrArg List.length h
    simp at this
    rw [this.1] at hln
    simp at hln
  have hd := decode_encode r hv t
  have hb : badL (Lib.encodeRune (r : Int) ++ t) = false := by
    unfold badL
    rw [hd]
    by_cases h : r = 65533
    · subst h
      rw [enc3 65533 (by omega)]
      rfl
    · simp [h]
  rw [okL_step hne, hb, hd]
  simp
theorem okL_byte (b : UInt8) (t : List UInt8) (h0 : 32 ≤ b.toNat) (h1 : b.toNat < 127) : okL (b :: t) = okL t := by
  have h := okL_rune b.toNat (by omega) t
  rw [enc1 b.toNat (by omega)] at h
  have e : UInt8.ofNat b.toNat = b := by simp
  rw [e] at h
  have hc : ctlR b.toNat = false := by simp [ctlR]; omega
  rw [hc] at h
  exact h
theorem okL_bytes : ∀ (l t : List UInt8), (∀ b ∈ l, 32 ≤ b.toNat ∧ b.toNat < 127) → okL (l ++ t) = okL t
  | [], _, _ => rfl
  | b :: l, t, h => by
    rw [List.cons_append, okL_byte b _ (h b (by simp)).1 (h b (by simp)).2]
    exact okL_bytes l t (fun c hc => h c (by simp [hc]))
theorem okL_ascii (l : List UInt8) (h : ∀ b ∈ l, 32 ≤ b.toNat ∧ b.toNat < 127) : okL l = true := by
  have := okL_bytes l [] h
  rw [List.append_nil] at this
  exact this
theorem hexN_bd (n : Nat) (h : n < 16) : 48 ≤ hexN n ∧ hexN n ≤ 102 := by unfold hexN; split <;> omega
theorem hexD_bd (n : Nat) (h : n < 16) : 32 ≤ (hexD n).toNat ∧ (hexD n).toNat < 127 := by
  have := hexN_bd n h
  unfold hexD
  rw [ofNat_toNat _ (by omega)]
  omega
theorem okL_quoteR (r : Nat) (hv : r < 55296 ∨ (57344 ≤ r ∧ r ≤ 1114111)) (t : List UInt8) : okL (quoteR r ++ t) = okL t := by
  by_cases h : r = 34 ∨ r = 92
  · rw [quoteR_sign h, List.cons_append, okL_byte _ _ (by decide) (by decide), okL_rune r hv]
    have hc : ctlR r = false := by simp [ctlR]; omega
    rw [hc]; rfl
  · rcases hc : ctlR r with _ | _
    · rw [quoteR_any h hc, okL_rune r hv, hc]; rfl
    · have hr : r ≤ 159 := by simp [ctlR] at hc; omega
      rw [quoteR_ctl hc]
      exact okL_bytes _ _ (fun b hb => by
        simp at hb
        rcases hb with rfl | rfl | rfl | rfl | rfl
        · decide
        · decide
        · decide
        · exact hexD_bd _ (by omega)
        · exact hexD_bd _ (by omega))
theorem okL_quoteGo : ∀ (f : Nat) (l t : List UInt8), okL (quoteGo f l ++ t) = okL t
  | 0, _, _ => rfl
  | f + 1, l, t => by
    unfold quoteGo
    split
    · rfl
    · rw [List.append_assoc, okL_quoteR _ (decodeL_valid l), okL_quoteGo f]
theorem okL_quote (l : List UInt8) : okL (quoteL l) = true := by
  unfold quoteL
  rw [okL_byte _ _ (by decide) (by decide), okL_quoteGo]
  exact okL_ascii _ (by decide)
theorem digits_bd : ∀ (u : Nat), ∀ b ∈ Lib.decDigits u, 48 ≤ b.toNat ∧ b.toNat ≤ 57 := by
  intro u
  induction u using Nat.strongRecOn with
  | _ u ih =>
    intro b hb
    rw [Lib.decDigits] at hb
    split at hb
    · rw [List.mem_singleton.1 hb, ofNat_toNat _ (by omega)]
      omega
    · rw [List.mem_append] at hb
      rcases hb with hb | hb
      · exact ih (u / 10) (by omega) b hb
      · rw [List.mem_singleton.1 hb, ofNat_toNat _ (by omega)]
        omega
theorem itoa_bd (n : Int) : ∀ b ∈ Lib.itoa n, 45 ≤ b.toNat ∧ b.toNat ≤ 57 := by
  intro b hb
  unfold Lib.itoa at hb
  split at hb
  · simp at hb
    rcases hb with rfl | hb
    · decide
    · have := digits_bd _ b hb; omega
  · have := digits_bd _ b hb; omega
theorem digits_ne (u : Nat) : Lib.decDigits u ≠ [] := by
  intro h
  have := Lib.decDigits_length u
  rw [h] at this
  have := Lib.nDigits_pos u
  simp at *
  omega
theorem itoa_ne (n : Int) : Lib.itoa n ≠ [] := by
  unfold Lib.itoa
  split
  · simp
  · exact digits_ne _

end Go.Proofs.YtdpbjdkkaekebaaDoor
