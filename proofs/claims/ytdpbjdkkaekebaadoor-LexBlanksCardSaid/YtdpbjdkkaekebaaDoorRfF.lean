/- The document's reading of a quoted text: bare. -/
import Derived.Test.YtdpbjdkkaekebaaDoorRfE0
import Derived.Test.YtdpbjdkkaekebaaDoorRfC
namespace Go.Proofs.YtdpbjdkkaekebaaDoor
open Go Go.RowKit

/-- Digits to the base of sixteen, read. -/
def hx : List UInt8 → Nat → Option Nat
  | [], v => some v
  | c :: r, v => match hexV c with
    | none => none
    | some d => hx r (v * 16 + d)
def bareGo (l acc : List UInt8) : Option (List UInt8) :=
  match l with
  | [] => some acc
  | c :: r => if c.toNat ≠ 92 then bareGo r (acc ++ [c]) else match r with
    | [] => none
    | d :: t => if d.toNat ≠ 117 then bareGo t (acc ++ [d]) else if t.length < 4 then none else match hx (t.take 4) 0 with
      | none => none
      | some v => bareGo (t.drop 4) (acc ++ byL v)
termination_by l.length
decreasing_by all_goals simp <;> omega
theorem bareGo_nil (acc : List UInt8) : bareGo [] acc = some acc := by rw [bareGo.eq_def]
theorem bareGo_any {c : UInt8} (h : c.toNat ≠ 92) (r acc : List UInt8) : bareGo (c :: r) acc = bareGo r (acc ++ [c]) := by rw [bareGo.eq_def]; dsimp only; rw [if_pos h]
theorem bareGo_sign {c d : UInt8} (h : c.toNat = 92) (h2 : d.toNat ≠ 117) (t acc : List UInt8) : bareGo (c :: d :: t) acc = bareGo t (acc ++ [d]) := by rw [bareGo.eq_def]; dsimp only; rw [if_neg (by omega), if_pos h2]
theorem bareGo_end {c : UInt8} (h : c.toNat = 92) (acc : List UInt8) : bareGo [c] acc = none := by rw [bareGo.eq_def]; dsimp only; rw [if_neg (by omega)]
theorem bareGo_short {c d : UInt8} (h : c.toNat = 92) (h2 : d.toNat = 117) {t : List UInt8} (ht : t.length < 4) (acc : List UInt8) : bareGo (c :: d :: t) acc = none := by rw [bareGo.eq_def]; dsimp only; rw [if_neg (by omega), if_neg (by omega), if_pos ht]
theorem bareGo_hex {c d : UInt8} (h : c.toNat = 92) (h2 : d.toNat = 117) {t : List UInt8} (ht : ¬ t.length < 4) (acc : List UInt8) : bareGo (c :: d :: t) acc = match hx (t.take 4) 0 with
      | none => none
      | some v => bareGo (t.drop 4) (acc ++ byL v) := by rw [bareGo.eq_def]; dsimp only; rw [if_neg (by omega), if_neg (by omega), if_neg ht]
theorem bareGo_bytes : ∀ (bs : List UInt8), (∀ b ∈ bs, b.toNat ≠ 92) → ∀ (r acc : List UInt8), bareGo (bs ++ r) acc = bareGo r (acc ++ bs)
  | [], _, r, acc => by simp
  | b :: bs, h, r, acc => by
    show bareGo (b :: (bs ++ r)) acc = _
    rw [bareGo_any (h b (by simp)), bareGo_bytes bs (fun x hx => h x (by simp [hx]))]
    simp
theorem enc_no92 {r : Nat} (h : r ≠ 92) (hv : r < 55296 ∨ (57344 ≤ r ∧ r ≤ 1114111)) : ∀ b ∈ Lib.encodeRune (r : Int), b.toNat ≠ 92 := by
  intro b hb
  rw [← byL_enc hv] at hb
  unfold byL at hb
  split at hb
  · simp at hb; subst hb; rw [ofNat_toNat _ (by omega)]; exact h
  · split at hb
    · simp only [List.mem_cons, List.not_mem_nil, or_false] at hb
      rcases hb with rfl | rfl <;> (rw [ofNat_toNat _ (by omega)]; omega)
    · split at hb
      · simp only [List.mem_cons, List.not_mem_nil, or_false] at hb
        rcases hb with rfl | rfl | rfl <;> (rw [ofNat_toNat _ (by omega)]; omega)
      · simp only [List.mem_cons, List.not_mem_nil, or_false] at hb
        rcases hb with rfl | rfl | rfl | rfl <;> (rw [ofNat_toNat _ (by omega)]; omega)
theorem bareGo_rune {r : Nat} (hv : r < 55296 ∨ (57344 ≤ r ∧ r ≤ 1114111)) (t acc : List UInt8) : bareGo (quoteR r ++ t) acc = bareGo t (acc ++ Lib.encodeRune (r : Int)) := by
  by_cases hs : r = 34 ∨ r = 92
  · rw [quoteR_sign hs, enc_one r (by omega)]
    have hb : (UInt8.ofNat r).toNat = r := ofNat_toNat r (by omega)
    exact bareGo_sign rfl (by rw [hb]; omega) t acc
  · by_cases hc : ctlR r = true
    · have hr : r < 256 := by simp [ctlR] at hc; omega
      rw [quoteR_ctl hc]
      show bareGo (92 :: 117 :: ([48, 48, hexD (r / 16), hexD (r % 16)] ++ t)) acc = _
      rw [bareGo_hex rfl rfl (by simp)]
      have e0 : hexV 48 = some 0 := by decide
      have e : hx (([48, 48, hexD (r / 16), hexD (r % 16)] ++ t).take 4) 0 = some r := by
        show hx [48, 48, hexD (r / 16), hexD (r % 16)] 0 = _
        simp only [hx, e0, hexV_hexD (r / 16) (by omega), hexV_hexD (r % 16) (by omega)]
        congr 1
        omega
      rw [e]
      show bareGo t (acc ++ byL r) = _
      rw [byL_enc hv]
    · rw [quoteR_any hs (by simpa using hc), bareGo_bytes _ (enc_no92 (by omega) hv)]
theorem bareGo_quote : ∀ (f : Nat) (l acc : List UInt8), l.length ≤ f → Lib.validD l = true → bareGo (quoteGo f l) acc = some (acc ++ l)
  | 0, l, acc, hf, _ => by
    obtain rfl : l = [] := List.eq_nil_of_length_eq_zero (by omega)
    rw [quoteGo_nil, bareGo_nil]; simp
  | f + 1, l, acc, hf, hv => by
    by_cases hne : l = []
    · subst hne; rw [quoteGo_nil, bareGo_nil]; simp
    · have hw := Lib.decodeL_width l
      have hl : 0 < l.length := List.length_pos_iff.2 hne
      rw [Lib.validD_step l hne] at hv
      have hb : ¬ ((Lib.decodeL l).1 = 65533 ∧ (Lib.decodeL l).2 = 1) := by
        intro h; rw [if_pos h] at hv; cases hv
      rw [if_neg hb] at hv
      have henc := Lib.encode_decode l hne hb
      have hq : quoteGo (f + 1) l = quoteR (Lib.decodeL l).1 ++ quoteGo f (l.drop (Lib.decodeL l).2) := by rw [quoteGo, if_neg hne]
      rw [hq, bareGo_rune (decodeL_valid l), bareGo_quote f _ _ (by rw [List.length_drop]; omega) hv, henc, List.append_assoc, List.take_append_drop]
/-- What a quoted text says, however it is written. -/
def bareD (l : List UInt8) : Option (List UInt8) :=
  if l.length < 2 ∨ l.head? ≠ some 34 ∨ l[l.length - 1]? ≠ some 34 then none else bareGo ((l.drop 1).take (l.length - 2)) []
theorem bareD_quote (l : List UInt8) (hv : Lib.validD l = true) : bareD (quoteL l) = some l := by
  unfold bareD quoteL
  have hl : (34 :: (quoteGo l.length l ++ [34]) : List UInt8)[(34 :: (quoteGo l.length l ++ [34]) : List UInt8).length - 1]? = some 34 := by
    show ((34 :: quoteGo l.length l) ++ [34])[_]? = _
    rw [List.getElem?_append_right (by simp)]
    simp
  rw [if_neg (by rw [hl]; simp)]
  have e : (((34 :: (quoteGo l.length l ++ [34])) : List UInt8).drop 1).take ((34 :: (quoteGo l.length l ++ [34]) : List UInt8).length - 2) = quoteGo l.length l := by simp
  rw [e, bareGo_quote _ l [] (Nat.le_refl _) hv]
  rfl
theorem byL_len (r : Nat) : (byL r).length ≤ 4 := by
  unfold byL
  repeat' split
  all_goals simp

end Go.Proofs.YtdpbjdkkaekebaaDoor
