/- A text between quotes: plain. -/
import Derived.Test.YtdpbjdkkaekebaaDoorVaD
import Derived.Lib.RuneBytes
import Derived.Lib.MapLaws
namespace Go.Proofs.YtdpbjdkkaekebaaDoor
open Go

def hexN (n : Nat) : Nat := if n < 10 then 48 + n else 87 + n
def hexD (n : Nat) : UInt8 := UInt8.ofNat (hexN n)
def ctlR (r : Nat) : Bool := decide (r < 32) || (decide (127 ≤ r) && decide (r ≤ 159))
def quoteR (r : Nat) : List UInt8 :=
  if r = 34 ∨ r = 92 then 92 :: Lib.encodeRune r else if ctlR r = true then [92, 117, 48, 48, hexD (r / 16), hexD (r % 16)] else Lib.encodeRune r
def quoteGo : Nat → List UInt8 → List UInt8
  | 0, _ => []
  | f + 1, l => if l = [] then [] else quoteR (Lib.decodeL l).1 ++ quoteGo f (l.drop (Lib.decodeL l).2)
def quoteL (l : List UInt8) : List UInt8 := 34 :: (quoteGo l.length l ++ [34])
theorem quoteGo_nil : ∀ f, quoteGo f [] = []
  | 0 => rfl
  | _ + 1 => by simp [quoteGo]
theorem quoteGo_fuel : ∀ (f g : Nat) (l : List UInt8), l.length ≤ f → l.length ≤ g → quoteGo f l = quoteGo g l
  | 0, g, l, hf, _ => by
    obtain rfl : l = [] := List.eq_nil_of_length_eq_zero (by omega)
    rw [quoteGo_nil, quoteGo_nil]
  | f + 1, 0, l, _, hg => by
    obtain rfl : l = [] := List.eq_nil_of_length_eq_zero (by omega)
    rw [quoteGo_nil, quoteGo_nil]
  | f + 1, g + 1, l, hf, hg => by
    unfold quoteGo
    by_cases hne : l = []
    · simp [hne]
    · have hw := Lib.decodeL_width l
      have hl : 0 < l.length := List.length_pos_iff.2 hne
      rw [if_neg hne, if_neg hne, quoteGo_fuel f g (l.drop (Lib.decodeL l).2) (by rw [List.length_drop]; omega) (by rw [List.length_drop]; omega)]
/-- What is written, and what is still to come. -/
def QAt (l acc : List UInt8) (p : Nat) : Prop := p ≤ l.length ∧ acc.length ≤ 1 + 6 * p ∧ quoteL l = acc ++ (quoteGo (l.length - p) (l.drop p) ++ [34])
theorem QAt.zero (l : List UInt8) : QAt l [34] 0 := ⟨Nat.zero_le _, by simp, by simp [quoteL]⟩
theorem quoteR_len (r : Nat) : (quoteR r).length ≤ 6 := by
  have h := Lib.runeCells_le (r : Int)
  rw [Lib.runeCells_length] at h
  unfold quoteR
  repeat' split
  · simp; omega
  · simp
  · omega
theorem QAt.next {l acc : List UInt8} {p : Nat} (h : QAt l acc p) (hp : p < l.length) : QAt l (acc ++ quoteR (Lib.decodeL (l.drop p)).1) (p + (Lib.decodeL (l.drop p)).2) := by
  obtain ⟨h1, h2, h3⟩ := h
  have hne : l.drop p ≠ [] := by simp; omega
  have hw := Lib.decodeL_width (l.drop p)
  have hle := Lib.decodeL_le (l.drop p) hne
  have hq := quoteR_len (Lib.decodeL (l.drop p)).1
  rw [List.length_drop] at hle
  refine ⟨by omega, by rw [List.length_append]; omega, ?_⟩
  obtain ⟨n, hn⟩ : ∃ n, l.length - p = n + 1 := ⟨l.length - p - 1, by omega⟩
  rw [h3, hn]
  show acc ++ ((if l.drop p = [] then [] else _) ++ [34]) = _
  rw [if_neg hne, List.drop_drop, quoteGo_fuel n (l.length - (p + (Lib.decodeL (l.drop p)).2)) _ (by rw [List.length_drop]; omega) (by rw [List.length_drop]; omega)]
  simp
theorem QAt.end_ {l acc : List UInt8} {p : Nat} (h : QAt l acc p) (hp : ¬ p < l.length) : quoteL l = acc ++ [34] := by
  obtain ⟨h1, h2, h3⟩ := h
  rw [h3]
  have e : l.length - p = 0 := by omega
  rw [e]
  rfl
theorem quoteR_sign {r : Nat} (h : r = 34 ∨ r = 92) : quoteR r = 92 :: Lib.encodeRune r := by unfold quoteR; rw [if_pos h]
theorem quoteR_ctl {r : Nat} (h : ctlR r = true) : quoteR r = [92, 117, 48, 48, hexD (r / 16), hexD (r % 16)] := by
  have h0 : ¬ (r = 34 ∨ r = 92) := by simp [ctlR] at h; omega
  unfold quoteR; rw [if_neg h0, if_pos h]
theorem quoteR_any {r : Nat} (h : ¬ (r = 34 ∨ r = 92)) (h2 : ctlR r = false) : quoteR r = Lib.encodeRune r := by
  unfold quoteR; rw [if_neg h, if_neg (by rw [h2]; simp)]

end Go.Proofs.YtdpbjdkkaekebaaDoor
