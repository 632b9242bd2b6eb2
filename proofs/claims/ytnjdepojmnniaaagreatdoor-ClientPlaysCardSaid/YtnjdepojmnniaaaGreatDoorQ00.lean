/- Joined of VaD, Base, VaT. -/
import Derived.Lib.ValidLaws
import Derived.Lib.RuneCount
import Derived.WalkKit
import Derived.WalkSpells
import Derived.Deep.AppendLies
import Derived.Maps.AppendAt
import Derived.Deep.QuietTactic
import Derived.BigQuiet
import Derived.Deep.RegionHeld3
import Derived.Deep.DrawnRows
import Derived.Deep.DeepMust
import Derived.Lib.SlBytesConst
import Derived.Test.YtnjdepojmnniaaaGreatDoorShelf
import Derived.Lib.SmallJoins
import Derived.Lib.ItoaNum

set_option linter.unusedSimpArgs false
set_option linter.unusedVariables false

/- Texts as pieces, values: plain Lean, no program in sight. -/
namespace Go.Proofs.YtnjdepojmnniaaaGreatDoor
open Go

/-- A piece of a text: where it begins, its bytes' number, its rune, whether it is a byte that is none. -/
structure Pc where
  at_ : Nat
  n : Nat
  r : Nat
  bad : Bool

def badL (l : List UInt8) : Bool := (Lib.decodeL l).1 == 65533 && (Lib.decodeL l).2 == 1
theorem badL_iff (l : List UInt8) : badL l = true ↔ (Lib.decodeL l).1 = 65533 ∧ (Lib.decodeL l).2 = 1 := by simp [badL]
/-- The pieces of l, whose first byte has the place p. -/
def pcs : Nat → Nat → List UInt8 → List Pc
  | 0, _, _ => []
  | f + 1, p, l => if l = [] then [] else ⟨p, (Lib.decodeL l).2, (Lib.decodeL l).1, badL l⟩ :: pcs f (p + (Lib.decodeL l).2) (l.drop (Lib.decodeL l).2)
def pieces (l : List UInt8) : List Pc := pcs l.length 0 l

theorem pcs_nil : ∀ f p, pcs f p [] = []
  | 0, _ => rfl
  | _ + 1, _ => by simp [pcs]
theorem pcs_fuel : ∀ (f g p : Nat) (l : List UInt8), l.length ≤ f → l.length ≤ g → pcs f p l = pcs g p l
  | 0, g, p, l, hf, _ => by
    obtain rfl : l = [] := List.eq_nil_of_length_eq_zero (by omega)
    rw [pcs_nil, pcs_nil]
  | f + 1, 0, p, l, _, hg => by
    obtain rfl : l = [] := List.eq_nil_of_length_eq_zero (by omega)
    rw [pcs_nil, pcs_nil]
  | f + 1, g + 1, p, l, hf, hg => by
    unfold pcs
    by_cases hne : l = []
    · simp [hne]
    · have hw := Lib.decodeL_width l
      have hl : 0 < l.length := List.length_pos_iff.2 hne
      rw [if_neg hne, if_neg hne, pcs_fuel f g _ (l.drop (Lib.decodeL l).2) (by rw [List.length_drop]; omega) (by rw [List.length_drop]; omega)]
theorem pcs_step {p : Nat} {l : List UInt8} (hne : l ≠ []) : pcs l.length p l = ⟨p, (Lib.decodeL l).2, (Lib.decodeL l).1, badL l⟩ :: pcs (l.drop (Lib.decodeL l).2).length (p + (Lib.decodeL l).2) (l.drop (Lib.decodeL l).2) := by
  have hl : 0 < l.length := List.length_pos_iff.2 hne
  have hw := Lib.decodeL_width l
  obtain ⟨n, hn⟩ : ∃ n, l.length = n + 1 := ⟨l.length - 1, by omega⟩
  rw [hn]
  show (if l = [] then [] else _) = _
  rw [if_neg hne, pcs_fuel n (l.drop (Lib.decodeL l).2).length _ _ (by rw [List.length_drop]; omega) (Nat.le_refl _)]

/-- What has been done, and what is still «to» come. -/
def PcsAt (l : List UInt8) (d : List Pc) (p : Nat) : Prop := p ≤ l.length ∧ d.length ≤ p ∧ pieces l = d ++ pcs (l.length - p) p (l.drop p)
theorem PcsAt.zero (l : List UInt8) : PcsAt l [] 0 := ⟨Nat.zero_le _, Nat.le_refl _, by simp [pieces]⟩
theorem PcsAt.next {l : List UInt8} {d : List Pc} {p : Nat} (h : PcsAt l d p) (hp : p < l.length) :
    PcsAt l (d ++ [⟨p, (Lib.decodeL (l.drop p)).2, (Lib.decodeL (l.drop p)).1, badL (l.drop p)⟩]) (p + (Lib.decodeL (l.drop p)).2) := by
  obtain ⟨h1, h2, h3⟩ := h
  have hne : l.drop p ≠ [] := by simp; omega
  have hw := Lib.decodeL_width (l.drop p)
  have hle := Lib.decodeL_le (l.drop p) hne
  rw [List.length_drop] at hle
  refine ⟨by omega, by simp; omega, ?_⟩
  have hs := pcs_step (p := p) hne
  rw [List.length_drop] at hs
  rw [h3, hs, List.drop_drop, List.length_drop]
  simp
theorem PcsAt.end_ {l : List UInt8} {d : List Pc} {p : Nat} (h : PcsAt l d p) (hp : ¬ p < l.length) : d = pieces l ∧ p = l.length := by
  obtain ⟨h1, h2, h3⟩ := h
  have e : p = l.length := by omega
  refine ⟨?_, e⟩
  rw [h3, e]
  simp [pcs]
theorem pcs_length_le : ∀ (f p : Nat) (l : List UInt8), (pcs f p l).length ≤ f
  | 0, _, _ => by simp [pcs]
  | f + 1, p, l => by
    unfold pcs
    split
    · simp
    · have := pcs_length_le f (p + (Lib.decodeL l).2) (l.drop (Lib.decodeL l).2)
      simp; omega
theorem pieces_le (l : List UInt8) : (pieces l).length ≤ l.length := pcs_length_le _ _ _

theorem pcs_count (s : ByteArray) : ∀ (f p : Nat), (pcs f p (s.data.toList.drop p)).length = Lib.runeCountFrom s f p
  | 0, _ => rfl
  | f + 1, p => by
    unfold pcs Lib.runeCountFrom
    by_cases hp : p < s.size
    · have hne : s.data.toList.drop p ≠ [] := by simp; exact hp
      rw [if_neg hne, if_pos hp, List.length_cons, List.drop_drop, pcs_count s f, Lib.decodeL_drop, Nat.add_comm]
    · have he : s.data.toList.drop p = [] := by simp; show s.size ≤ p; omega
      rw [if_pos he, if_neg hp]; rfl
theorem pieces_count (s : ByteArray) : (pieces s.data.toList).length = Lib.runeCount s := by
  have := pcs_count s s.size 0
  simp at this
  exact this
theorem pcs_valid : ∀ (f p : Nat) (l : List UInt8), (pcs f p l).all (fun x => !x.bad) = Lib.validGoD f l
  | 0, _, _ => rfl
  | f + 1, p, l => by
    unfold pcs Lib.validGoD
    by_cases hne : l = []
    · simp [hne]
    · rw [if_neg hne, if_neg hne, List.all_cons, pcs_valid f]
      by_cases hb : badL l = true
      · rw [if_pos ((badL_iff l).1 hb)]; simp [hb]
      · rw [if_neg (fun h => hb ((badL_iff l).2 h))]; simp [hb]
theorem pieces_valid (l : List UInt8) : (pieces l).all (fun x => !x.bad) = Lib.validD l := pcs_valid _ _ _

/-! The bytes at a piece. -/
def byteAt (s : ByteArray) (i : Nat) : Nat := (s.get! i).toNat
theorem byteAt_lt (s : ByteArray) (i : Nat) : byteAt s i < 256 := UInt8.toNat_lt _
/-- The byte at i goes on a sequence. -/
def moreB (s : ByteArray) (i : Nat) : Bool := decide (i < s.size) && (decide (128 ≤ byteAt s i) && decide (byteAt s i ≤ 191))
theorem moreB_iff (s : ByteArray) (i : Nat) : moreB s i = true ↔ i < s.size ∧ 128 ≤ byteAt s i ∧ byteAt s i ≤ 191 := by simp [moreB]
/-- How many bytes the first one asks for (0: none), and what it gives. -/
def leadN (b : Nat) : Nat := if 194 ≤ b ∧ b ≤ 223 then 2 else if 224 ≤ b ∧ b ≤ 239 then 3 else if 240 ≤ b ∧ b ≤ 244 then 4 else 0
def leadR (b : Nat) : Nat := if 194 ≤ b ∧ b ≤ 223 then b - 192 else if 224 ≤ b ∧ b ≤ 239 then b - 224 else if 240 ≤ b ∧ b ≤ 244 then b - 240 else 0
def accR (s : ByteArray) (i : Nat) : Nat → Nat
  | 0 => leadR (byteAt s i)
  | k + 1 => accR s i k * 64 + (byteAt s (i + (k + 1)) - 128)
/-- Do all bytes behind the first one go on? -/
def goesOn (s : ByteArray) (i n : Nat) : Bool := (List.range n).all fun k => moreB s (i + (k + 1))
def okSeq (n r : Nat) : Bool := !((n == 3 && (decide (r < 2048) || (decide (55296 ≤ r) && decide (r ≤ 57343)))) || (n == 4 && (decide (r < 65536) || decide (1114111 < r))))
set_option maxRecDepth 100000 in
set_option maxHeartbeats 4000000 in
theorem decN2 (n b0 b1 b2 b3 : Nat) (h1 : b1 < 256) (hb : 194 ≤ b0 ∧ b0 ≤ 223) : Lib.decodeN n b0 b1 b2 b3 = if 1 < n ∧ 128 ≤ b1 ∧ b1 ≤ 191 then ((b0 - 192) * 64 + (b1 - 128), 2) else (65533, 1) := by
  unfold Lib.decodeN
  repeat' split
  all_goals first | rfl | (exfalso; omega) | (refine Prod.ext ?_ rfl; show _ = _; omega)
def ok3 (r : Nat) : Prop := 2048 ≤ r ∧ (r < 55296 ∨ 57344 ≤ r)
def ok4 (r : Nat) : Prop := 65536 ≤ r ∧ r ≤ 1114111
set_option maxRecDepth 100000 in
set_option maxHeartbeats 4000000 in
open Classical in
theorem decN3 (n b0 b1 b2 b3 : Nat) (h1 : b1 < 256) (h2 : b2 < 256) (hb : 224 ≤ b0 ∧ b0 ≤ 239) : Lib.decodeN n b0 b1 b2 b3 = if (1 < n ∧ 128 ≤ b1 ∧ b1 ≤ 191) ∧ (2 < n ∧ 128 ≤ b2 ∧ b2 ≤ 191) ∧ ok3 (((b0 - 224) * 64 + (b1 - 128)) * 64 + (b2 - 128)) then (((b0 - 224) * 64 + (b1 - 128)) * 64 + (b2 - 128), 3) else (65533, 1) := by
  unfold Lib.decodeN ok3
  repeat' split
  all_goals first | rfl | (exfalso; omega) | (refine Prod.ext ?_ rfl; show _ = _; omega)
set_option maxRecDepth 100000 in
set_option maxHeartbeats 4000000 in
open Classical in
theorem decN4 (n b0 b1 b2 b3 : Nat) (h1 : b1 < 256) (h2 : b2 < 256) (h3 : b3 < 256) (hb : 240 ≤ b0 ∧ b0 ≤ 244) : Lib.decodeN n b0 b1 b2 b3 = if (1 < n ∧ 128 ≤ b1 ∧ b1 ≤ 191) ∧ (2 < n ∧ 128 ≤ b2 ∧ b2 ≤ 191) ∧ (3 < n ∧ 128 ≤ b3 ∧ b3 ≤ 191) ∧ ok4 ((((b0 - 240) * 64 + (b1 - 128)) * 64 + (b2 - 128)) * 64 + (b3 - 128)) then ((((b0 - 240) * 64 + (b1 - 128)) * 64 + (b2 - 128)) * 64 + (b3 - 128), 4) else (65533, 1) := by
  unfold Lib.decodeN ok4
  repeat' split
  all_goals first | rfl | (exfalso; omega) | (refine Prod.ext ?_ rfl; show _ = _; omega)
set_option maxRecDepth 100000 in
set_option maxHeartbeats 4000000 in
theorem decN0 (n b0 b1 b2 b3 : Nat) (h0 : 128 ≤ b0) (hl : b0 < 256) (h1 : b1 < 256) (hb : leadN b0 = 0) : Lib.decodeN n b0 b1 b2 b3 = (65533, 1) := by
  have h : ¬ (194 ≤ b0 ∧ b0 ≤ 223) ∧ ¬ (224 ≤ b0 ∧ b0 ≤ 239) ∧ ¬ (240 ≤ b0 ∧ b0 ≤ 244) := by
    unfold leadN at hb
    repeat' split at hb
    all_goals first | (exfalso; omega) | (exact ⟨by assumption, by assumption, by assumption⟩)
  unfold Lib.decodeN
  repeat' split
  all_goals first | rfl | (exfalso; omega)
theorem ok3_iff (r : Nat) : ok3 r ↔ okSeq 3 r = true := by
  unfold ok3 okSeq
  simp
  omega
theorem ok4_iff (r : Nat) : ok4 r ↔ okSeq 4 r = true := by
  unfold ok4 okSeq
  simp
theorem if_iff {α : Type} {p q : Prop} {_ : Decidable p} {_ : Decidable q} (h : p ↔ q) (a b : α) : (if p then a else b) = if q then a else b := by
  by_cases hp : p
  · rw [if_pos hp, if_pos (h.1 hp)]
  · rw [if_neg hp, if_neg (fun hq => hp (h.2 hq))]
theorem okSeq2 (r : Nat) : okSeq 2 r = true := by simp [okSeq]
theorem decode_lead (s : ByteArray) (i : Nat) (h : i < s.size) (h0 : ¬ byteAt s i < 128) :
    Utf8.decode s i = if leadN (byteAt s i) ≠ 0 ∧ goesOn s i (leadN (byteAt s i) - 1) = true ∧ okSeq (leadN (byteAt s i)) (accR s i (leadN (byteAt s i) - 1)) = true then (accR s i (leadN (byteAt s i) - 1), leadN (byteAt s i)) else (65533, 1) := by
  rw [Lib.decode_at]
  show Lib.decodeN (s.size - i) (byteAt s i) (byteAt s (i + 1)) (byteAt s (i + 2)) (byteAt s (i + 3)) = _
  have b0 := byteAt_lt s i
  have b1 := byteAt_lt s (i + 1)
  have b2 := byteAt_lt s (i + 2)
  have b3 := byteAt_lt s (i + 3)
  have g : ∀ k, moreB s (i + k) = true ↔ k < s.size - i ∧ 128 ≤ byteAt s (i + k) ∧ byteAt s (i + k) ≤ 191 := fun k => by
    rw [moreB_iff]
    constructor <;> (rintro ⟨h1, h2⟩; exact ⟨by omega, h2⟩)
  by_cases hA : 194 ≤ byteAt s i ∧ byteAt s i ≤ 223
  · have hn : leadN (byteAt s i) = 2 := by unfold leadN; rw [if_pos hA]
    have hr : accR s i 1 = (byteAt s i - 192) * 64 + (byteAt s (i + 1) - 128) := by show leadR (byteAt s i) * 64 + _ = _; unfold leadR; rw [if_pos hA]
    have hg : goesOn s i 1 = true ↔ 1 < s.size - i ∧ 128 ≤ byteAt s (i + 1) ∧ byteAt s (i + 1) ≤ 191 := by
      rw [← g 1]; simp [goesOn, List.range_succ]
    rw [hn, decN2 _ _ _ _ _ b1 hA]
    show _ = if _ ∧ goesOn s i 1 = true ∧ okSeq 2 (accR s i 1) = true then (accR s i 1, 2) else _
    rw [hr]
    exact if_iff ⟨fun h => ⟨by omega, hg.2 h, okSeq2 _⟩, fun h => hg.1 h.2.1⟩ _ _
  by_cases hB : 224 ≤ byteAt s i ∧ byteAt s i ≤ 239
  · have hn : leadN (byteAt s i) = 3 := by unfold leadN; rw [if_neg hA, if_pos hB]
    have hr : accR s i 2 = ((byteAt s i - 224) * 64 + (byteAt s (i + 1) - 128)) * 64 + (byteAt s (i + 2) - 128) := by show (leadR (byteAt s i) * 64 + _) * 64 + _ = _; unfold leadR; rw [if_neg hA, if_pos hB]
    have hg : goesOn s i 2 = true ↔ (1 < s.size - i ∧ 128 ≤ byteAt s (i + 1) ∧ byteAt s (i + 1) ≤ 191) ∧ (2 < s.size - i ∧ 128 ≤ byteAt s (i + 2) ∧ byteAt s (i + 2) ≤ 191) := by
      rw [← g 1, ← g 2]; simp [goesOn, List.range_succ]
    rw [hn, decN3 _ _ _ _ _ b1 b2 hB]
    show _ = if _ ∧ goesOn s i 2 = true ∧ okSeq 3 (accR s i 2) = true then (accR s i 2, 3) else _
    rw [hr]
    exact if_iff ⟨fun h => ⟨by omega, hg.2 ⟨h.1, h.2.1⟩, (ok3_iff _).1 h.2.2⟩, fun h => ⟨(hg.1 h.2.1).1, (hg.1 h.2.1).2, (ok3_iff _).2 h.2.2⟩⟩ _ _
  by_cases hC : 240 ≤ byteAt s i ∧ byteAt s i ≤ 244
  · have hn : leadN (byteAt s i) = 4 := by unfold leadN; rw [if_neg hA, if_neg hB, if_pos hC]
    have hr : accR s i 3 = (((byteAt s i - 240) * 64 + (byteAt s (i + 1) - 128)) * 64 + (byteAt s (i + 2) - 128)) * 64 + (byteAt s (i + 3) - 128) := by show ((leadR (byteAt s i) * 64 + _) * 64 + _) * 64 + _ = _; unfold leadR; rw [if_neg hA, if_neg hB, if_pos hC]
    have hg : goesOn s i 3 = true ↔ (1 < s.size - i ∧ 128 ≤ byteAt s (i + 1) ∧ byteAt s (i + 1) ≤ 191) ∧ (2 < s.size - i ∧ 128 ≤ byteAt s (i + 2) ∧ byteAt s (i + 2) ≤ 191) ∧ (3 < s.size - i ∧ 128 ≤ byteAt s (i + 3) ∧ byteAt s (i + 3) ≤ 191) := by
      rw [← g 1, ← g 2, ← g 3]; simp [goesOn, List.range_succ]
    rw [hn, decN4 _ _ _ _ _ b1 b2 b3 hC]
    show _ = if _ ∧ goesOn s i 3 = true ∧ okSeq 4 (accR s i 3) = true then (accR s i 3, 4) else _
    rw [hr]
    exact if_iff ⟨fun h => ⟨by omega, hg.2 ⟨h.1, h.2.1, h.2.2.1⟩, (ok4_iff _).1 h.2.2.2⟩, fun h => ⟨(hg.1 h.2.1).1, (hg.1 h.2.1).2.1, (hg.1 h.2.1).2.2, (ok4_iff _).2 h.2.2⟩⟩ _ _
  have hn : leadN (byteAt s i) = 0 := by unfold leadN; rw [if_neg hA, if_neg hB, if_neg hC]
  rw [decN0 _ _ _ _ _ (by omega) b0 b1 hn, if_neg (fun h => h.1 hn)]

theorem badL_high (s : ByteArray) (i : Nat) (h : i < s.size) (h0 : ¬ byteAt s i < 128) :
    badL (s.data.toList.drop i) = !(decide (leadN (byteAt s i) ≠ 0) && (goesOn s i (leadN (byteAt s i) - 1) && okSeq (leadN (byteAt s i)) (accR s i (leadN (byteAt s i) - 1)))) := by
  unfold badL
  rw [Lib.decodeL_drop, decode_lead s i h h0]
  split
  · rename_i hc
    obtain ⟨c1, c2, c3⟩ := hc
    have hw : leadN (byteAt s i) ≠ 1 := by unfold leadN; (repeat' split) <;> omega
    simp [c1, c2, c3, hw]
  · rename_i hc
    have : (decide (leadN (byteAt s i) ≠ 0) && (goesOn s i (leadN (byteAt s i) - 1) && okSeq (leadN (byteAt s i)) (accR s i (leadN (byteAt s i) - 1)))) = false := by
      rw [Bool.eq_false_iff]
      intro h
      simp only [Bool.and_eq_true, decide_eq_true_eq] at h
      exact hc h
    rw [this]
    rfl
theorem decode_low (s : ByteArray) (i : Nat) (h0 : byteAt s i < 128) : Utf8.decode s i = (byteAt s i, 1) := by
  rw [Lib.decode_at]
  unfold Lib.decodeN
  rw [if_pos (by exact h0)]
  rfl
theorem badL_low (s : ByteArray) (i : Nat) (h0 : byteAt s i < 128) : badL (s.data.toList.drop i) = false := by
  unfold badL
  rw [Lib.decodeL_drop, decode_low s i h0]
  simp
  omega

/-! Values. -/
def I64 (n : Int) : Prop := -9223372036854775808 ≤ n ∧ n ≤ 9223372036854775807
structure ValD where
  kind : Int
  n : Int
  s : ByteArray
def textOk (s : ByteArray) : Bool := decide (s.size ≤ 400) && (Lib.validD s.data.toList && decide (Lib.runeCount s ≤ 100))
def emptyB (s : ByteArray) : Bool := s.toList.isEmpty
def checkD (v : ValD) : Bool :=
  if v.kind = 0 then v.n == 0 && emptyB v.s else if v.kind = 1 then emptyB v.s else if v.kind = 2 then (v.n == 0 || v.n == 1) && emptyB v.s
  else if v.kind = 3 then v.n == 0 && textOk v.s else if v.kind = 4 then decide (1 ≤ v.n) && decide (v.n ≤ 4) && emptyB v.s else false
def fitsD (v : ValD) (t : Int) : Bool := checkD v && (v.kind == 0 || v.kind == t)
def val0 : ValD := ⟨0, 0, ⟨#[]⟩⟩
def valV (v : ValD) : Value := .agg #[.int .i64 v.kind, .int .i64 v.n, .string v.s]
theorem emptyB_data {s : ByteArray} (h : emptyB s = true) : s.data.toList = [] := by
  rw [← ByteArray.toList_eq]
  exact List.isEmpty_iff.1 h
theorem checkD_small {v : ValD} (h : checkD v = true) : v.s.size ≤ 400 := by
  have he : emptyB v.s = true → v.s.size ≤ 400 := fun h => by
    have : v.s.size = 0 := by show v.s.data.size = 0; rw [← Array.length_toList, emptyB_data h]; rfl
    omega
  unfold checkD at h
  repeat' split at h
  · exact he (by simp at h; exact h.2)
  · exact he h
  · exact he (by simp at h; exact h.2)
  · simp [textOk] at h; exact h.2.1
  · exact he (by simp at h; exact h.2)
  · cases h

end Go.Proofs.YtnjdepojmnniaaaGreatDoor

/- Small words on worlds, footprints and slices that every walk of this seat uses. No program is named here. -/
namespace Go.Proofs.YtnjdepojmnniaaaGreatDoor
open Go Go.RowKit

/-- A fact laid behind 'Hid'. -/
theorem hid {p : Prop} (h : p) : Hid p := h

/-- Outside the blocks F the world w' is as w was; new blocks may have come. -/
structure Keeps (F : List Nat) (w w' : World) : Prop where
  os : w'.os = w.os
  tape : w'.tape = w.tape
  output : w'.output = w.output
  size : w.heap.size ≤ w'.heap.size
  block : ∀ k, k < w.heap.size → k ∉ F → w'.heap[k]? = w.heap[k]?

namespace Keeps
variable {F G : List Nat} {w w' w'' : World}
theorem refl (F : List Nat) (w : World) : Keeps F w w := ⟨rfl, rfl, rfl, Nat.le_refl _, fun _ _ _ => rfl⟩
theorem mono (h : Keeps F w w') (s : ∀ k, k < w.heap.size → k ∈ F → k ∈ G) : Keeps G w w' :=
  ⟨h.os, h.tape, h.output, h.size, fun k hk hn => h.block k hk (fun hf => hn (s k hk hf))⟩
/-- Two steps; what the second one touches is old and in F, or new. -/
theorem trans (h : Keeps F w w') (g : Keeps G w' w'') (s : ∀ k, k < w.heap.size → k ∈ G → k ∈ F) : Keeps F w w'' :=
  ⟨g.os.trans h.os, g.tape.trans h.tape, g.output.trans h.output, Nat.le_trans h.size g.size,
    fun k hk hn => (g.block k (Nat.lt_of_lt_of_le hk h.size) (fun hg => hn (s k hk hg))).trans (h.block k hk hn)⟩
theorem ofGrown {row : Option Nat} (h : w.grownBy w' row) (s : ∀ k, row = some k → k ∈ F) : Keeps F w w' :=
  ⟨h.os, h.tape, h.output, h.size, fun k hk hn => h.block k hk (fun e => hn (s k e.symm))⟩
theorem ofBelow {B : Nat} (h : Below B w w') (s : ∀ k, k < w.heap.size → B ≤ k → k ∈ F) : Keeps F w w' :=
  ⟨h.os, h.tape, h.output, h.size, fun k hk hn => h.block k (by rcases Nat.lt_or_ge k B with l | l; exact l; exact absurd (s k hk l) hn)⟩
theorem below (h : Keeps F w w') {B : Nat} (hB : B ≤ w.heap.size) (s : ∀ k, k ∈ F → B ≤ k) : Below B w w' :=
  ⟨h.os, h.tape, h.output, h.size, fun k hk => h.block k (by omega) (fun hf => by have := s k hf; omega)⟩
theorem drew (h : Keeps F w w') : Keeps F w w'.drew := ⟨h.os, h.tape, h.output, h.size, h.block⟩
theorem drewN (h : Keeps F w w') (n : Nat) : Keeps F w (w'.drewN n) := ⟨h.os, h.tape, h.output, h.size, h.block⟩
theorem alloc (h : Keeps F w w') (o : Obj) : Keeps F w (w'.alloc o) :=
  h.trans (G := []) ⟨rfl, rfl, rfl, by simp, fun k hk _ => Below.heap_alloc w' o k hk⟩ (fun _ _ h => by cases h)
theorem setCell (h : Keeps F w w') {p : Addr} (hp : p.block ∈ F ∨ w.heap.size ≤ p.block) (u : Value) : Keeps F w (w'.setCell p u) :=
  h.trans (G := [p.block]) ⟨rfl, rfl, rfl, by simp, fun k _ hn => heap_setCell_other w' p k u (fun e => hn (by simp [e]))⟩
    (fun k hk hm => by simp at hm; subst hm; rcases hp with hp | hp; exact hp; omega)
/-! Short names, for what is printed often. -/
theorem kR (F : List Nat) (w : World) : Keeps F w w := refl F w
theorem kA (h : Keeps F w w') (o : Obj) : Keeps F w (w'.alloc o) := h.alloc o
theorem kN (h : Keeps F w w') (n : Nat) : Keeps F w (w'.drewN n) := h.drewN n
theorem kD (h : Keeps F w w') : Keeps F w w'.drew := h.drew
theorem kS (h : Keeps F w w') {p : Addr} (hp : p.block ∈ F ∨ w.heap.size ≤ p.block) (u : Value) : Keeps F w (w'.setCell p u) := h.setCell hp u
/-- A chain of allocations, draws and stores; it ends at a hypothesis or at w. -/
theorem K (h : Keeps F w w' := by
    repeat (first
      | (with_reducible first | exact Keeps.kR _ _ | assumption | refine Keeps.kA ?_ _ | refine Keeps.kN ?_ _ | refine Keeps.kD ?_)
      | (with_reducible refine Keeps.kS ?_ ?_ _; rotate_left 1; · first | (refine .inl ?_; simp; done) | (refine .inr ?_; first | exact Nat.le_refl _ | (simp; done) | (simp; omega) | omega)))) : Keeps F w w' := h
/-- Behind a law that ends in 'grownBy', the world ahead of it being w' but for draws. -/
theorem grown {w1 w2 : World} {row : Option Nat} (h : Keeps F w w') (g : w1.grownBy w2 row) (e1 : w1.heap = w'.heap) (e2 : w1.os = w'.os) (e3 : w1.tape = w'.tape) (e4 : w1.output = w'.output)
    (s : ∀ k, row = some k → k ∈ F ∨ w.heap.size ≤ k) : Keeps F w w2 :=
  ⟨g.os.trans (e2.trans h.os), g.tape.trans (e3.trans h.tape), g.output.trans (e4.trans h.output), Nat.le_trans h.size (by rw [← e1]; exact g.size),
    fun k hk hn => (g.block k (by rw [e1]; exact Nat.lt_of_lt_of_le hk h.size) (fun e => by rcases s k e.symm with h1 | h1; exact hn h1; omega)).trans (by rw [e1]; exact h.block k hk hn)⟩
theorem cell (h : Keeps F w w') {a : Addr} (ha : a.block < w.heap.size) (hn : a.block ∉ F) : w'.cell? a = w.cell? a := World.cell?_of_block (w := w) (h.block _ ha hn)
theorem cellSome (h : Keeps F w w') {a : Addr} {v : Value} (ha : w.cell? a = some v) (hn : a.block ∉ F) : w'.cell? a = some v := (h.cell (World.block_lt_of_cell? _ _ ha) hn).trans ha
theorem frozen (h : Keeps F w w') {a : Addr} (ha : a.block < w.heap.size) (hn : a.block ∉ F) : w'.frozen? a = w.frozen? a := World.frozen?_of_block (w := w) (h.block _ ha hn)
end Keeps

theorem le_maxLen {n : Nat} (h : n ≤ 140737488355328) : n ≤ maxLen := by unfold maxLen; omega

theorem addr_add (b o j : Nat) : (⟨b, o, none⟩ : Addr).add j = ⟨b, o + j, none⟩ := by unfold Addr.add; split <;> simp_all

/-- A slice value that reads as n elements of so many cells each: all its cells are xs. Nothing is asked of an empty one's address. -/
def Reads (w : World) (size : Nat) (v : Value) (n : Nat) (xs : List Value) : Prop :=
  xs.length = n * size ∧ ((n = 0 ∧ ∃ a c, v = .slice a 0 c) ∨ (0 < n ∧ ∃ b off c, v = .slice (some ⟨b, off, none⟩) n c ∧ n ≤ c ∧ c ≤ maxLen ∧ b < w.heap.size ∧ ∀ j u, xs[j]? = some u → w.cell? ⟨b, off + j, none⟩ = some u))

/-- The blocks that a slice leads «to». -/
def ownB (v : Value) : List Nat := v.ownBlock.toList

theorem mem_ownB {v : Value} {k : Nat} : k ∈ ownB v ↔ v.ownBlock = some k := by unfold ownB; cases v.ownBlock <;> simp [eq_comm]

theorem Reads.keeps {F : List Nat} {w w' : World} {size n : Nat} {v : Value} {xs : List Value} (h : Reads w size v n xs) (k : Keeps F w w') (hn : ∀ b, b ∈ ownB v → b ∉ F) : Reads w' size v n xs := by
  obtain ⟨hl, h | ⟨hp, b, off, c, rfl, hnc, hc, hb, hx⟩⟩ := h
  · exact ⟨hl, .inl h⟩
  · refine ⟨hl, .inr ⟨hp, b, off, c, rfl, hnc, hc, Nat.lt_of_lt_of_le hb k.size, fun j u hu => ?_⟩⟩
    exact k.cellSome (hx j u hu) (hn b (by simp [mem_ownB, Value.ownBlock]))

theorem Reads.below {B : Nat} {w w' : World} {size n : Nat} {v : Value} {xs : List Value} (h : Reads w size v n xs) (k : Below B w w') (hn : ∀ b, b ∈ ownB v → b < B) : Reads w' size v n xs := by
  obtain ⟨hl, h | ⟨hp, b, off, c, rfl, hnc, hc, hb, hx⟩⟩ := h
  · exact ⟨hl, .inl h⟩
  · refine ⟨hl, .inr ⟨hp, b, off, c, rfl, hnc, hc, Nat.lt_of_lt_of_le hb k.size, fun j u hu => ?_⟩⟩
    exact (k.cell (p := ⟨b, off + j, none⟩) (hn b (by simp [mem_ownB, Value.ownBlock]))).trans (hx j u hu)

/-- What the call owns, read. -/
theorem Reads.ofOwn {w : World} {base e size n : Nat} {v : Value} {xs : List Value} (h : w.ownsRow base e size v n xs) : Reads w size v n xs := by
  obtain ⟨hl, ⟨rfl, rfl⟩ | ⟨g, cap, cur, rfl, hb, hg, hnc, hcm, hcs, htake⟩⟩ := h
  · exact ⟨hl, .inl ⟨rfl, none, 0, rfl⟩⟩
  · rcases Nat.eq_zero_or_pos n with rfl | hp
    · exact ⟨hl, .inl ⟨rfl, _, _, rfl⟩⟩
    · refine ⟨hl, .inr ⟨hp, g, 0, cap, rfl, hnc, hcm, (Array.getElem?_eq_some_iff.1 hg).1, fun j u hu => ?_⟩⟩
      rw [Nat.zero_add, cell_of_row w g j cur e (0, 0) hg]
      rw [← htake, List.getElem?_take] at hu
      split at hu
      · simpa using hu
      · cases hu

theorem ownsRow_keeps {F : List Nat} {w w' : World} {base e size n : Nat} {v : Value} {xs : List Value} (h : w.ownsRow base e size v n xs) (k : Keeps F w w') (hn : ∀ b, b ∈ ownB v → b ∉ F) : w'.ownsRow base e size v n xs := by
  refine ⟨h.1, ?_⟩
  rcases h.2 with hx | ⟨g, cap, cur, rfl, hb, hg, rest⟩
  · exact .inl hx
  · refine .inr ⟨g, cap, cur, rfl, hb, ?_, rest⟩
    rw [k.block g (Array.getElem?_eq_some_iff.1 hg).1 (hn g (by simp [mem_ownB, Value.ownBlock]))]
    exact hg

theorem ownsRow_base {w : World} {base base' e size n : Nat} {v : Value} {xs : List Value} (h : w.ownsRow base e size v n xs) (hb : base' ≤ base) : w.ownsRow base' e size v n xs := by
  refine ⟨h.1, ?_⟩
  rcases h.2 with hx | ⟨g, cap, cur, rfl, hb', rest⟩
  · exact .inl hx
  · exact .inr ⟨g, cap, cur, rfl, Nat.le_trans hb hb', rest⟩

theorem len_form {w : World} {base e size n : Nat} {v : Value} {xs : List Value} (h : w.ownsRow base e size v n xs) : ∃ a c, v = .slice a n c := by
  rcases h.2 with ⟨rfl, rfl⟩ | ⟨g, cap, cur, rfl, _⟩
  · exact ⟨_, _, rfl⟩
  · exact ⟨_, _, rfl⟩

theorem cell_of_block {w : World} {b : Nat} {cs : Array Value} {t : TypeId} {fr : Nat × Nat} (h : w.heap[b]? = some (.cells cs t fr)) (j : Nat) : w.cell? ⟨b, j, none⟩ = cs[j]? := cell_of_row w b j cs t fr h

/-- From an own row whose base is raised: 'all its blocks lie at or above'. -/
theorem ownB_ge {w : World} {base e size n : Nat} {v : Value} {xs : List Value} (h : w.ownsRow base e size v n xs) : ∀ b, b ∈ ownB v → base ≤ b ∧ b < w.heap.size := by
  intro b hb
  exact h.lt b (mem_ownB.1 hb)

section
variable {P : Program} (w : World)
/-- append(nil, src...): a copy. -/
theorem run_append_copy (t ty e : TypeId) (i : TypeInfo) (z : Value) (size bytes : Nat) (ht : P.underlying t = some (.slice e)) (hi : P.info? e = some i) (hz : i.zero = some z)
    (hsize : i.size = size) (hby : i.bytes = bytes) (hzs : z.cells.size = size) (hsz : 0 < size)
    (v : Value) (n : Nat) (xs : List Value) (hr : Reads w size v n xs) (h1 : ∀ u ∈ xs, u.oneCell' = true) (hbytes : n * bytes ≤ 140737488355328) (h63 : n ≤ maxLen) :
    ∃ v' w', (Builtin.append_ #[t, t] ty #[.slice none 0 0, v]).run P w = .ok v' w' ∧ w'.ownsRow w.heap.size e size v' n xs ∧ w.grownBy w' none := by
  obtain ⟨hl, ⟨rfl, a, c, rfl⟩ | ⟨hp, b, off, c, rfl, hnc, hc, hb, hx⟩⟩ := hr
  · obtain rfl : xs = [] := List.eq_nil_of_length_eq_zero (by simpa using hl)
    refine ⟨.slice none 0 0, w, ?_, World.ownsRow_nil w _ e size, ⟨rfl, rfl, rfl, Nat.le_refl _, fun _ _ _ => rfl⟩⟩
    cases a <;> simp [Builtin.append_, run_underlying ht, sizeOf, typeInfo, hi, Builtin.lenOf, Builtin.firstCells, loadCells, loadCellsFrom]
  · obtain ⟨v', w', h2, h3, h4, _⟩ := run_append_own_at (P := P) w w.heap.size t ty e i z size bytes ht hi hz hsize hby hzs hsz (.slice none 0 0) 0 [] (World.ownsRow_nil _ _ _ _)
      ⟨b, off, none⟩ n c xs hl (fun j u hu => by rw [show (⟨b, off, none⟩ : Addr).add j = ⟨b, off + j, none⟩ by unfold Addr.add; split <;> simp_all]; exact hx j u hu) h1 (by omega) (by simpa using hbytes) (Nat.le_refl _)
    rw [Nat.zero_add, List.nil_append] at h3
    exact ⟨v', w', h2, h3, h4⟩

theorem wpList_append_copy {ops : Array Oper} {rest : List Oper} {o : Oper} {a : Act} {Q : Exit → Act → World → Prop} (hgd : o.guard = none) (x : Operand) (t : TypeId)
    (ho : o.op = .call { callee := .builtin .append, args := #[.const (.slice none 0 0), x], argTypes := #[t, t] })
    (e : TypeId) (i : TypeInfo) (z : Value) (size bytes : Nat) (ht : P.underlying t = some (.slice e)) (hi : P.info? e = some i) (hz : i.zero = some z)
    (hsize : i.size = size) (hby : i.bytes = bytes) (hzs : z.cells.size = size) (hsz : 0 < size)
    (v : Value) (n : Nat) (xs : List Value) (hx : a.eval x = v) (hr : Reads w size v n xs) (h1 : ∀ u ∈ xs, u.oneCell' = true) (hbytes : n * bytes ≤ 140737488355328) (h63 : n ≤ maxLen)
    (h : ∀ v' w', w'.ownsRow w.heap.size e size v' n xs → w.grownBy w' none → wpList P ops Q rest (a.put o.dst v') w') : wpList P ops Q (o :: rest) a w := by
  refine wpList_plain hgd fun K hK => ?_
  obtain ⟨v', w', hrun, h2, h3⟩ := run_append_copy (P := P) w t o.type e i z size bytes ht hi hz hsize hby hzs hsz v n xs hr h1 hbytes h63
  unfold Oper.wp execOp
  have he : a.eval (.const (.slice none 0 0)) = .slice none 0 0 := rfl
  simp only [ho, resolve, invoke, builtin, Sem.run_bind, Sem.run_pure, Result.andThen_ok, List.map_toArray, List.map_cons, List.map_nil, hx, he, hrun]
  exact hK _ _ (h v' w' h2 h3)
end

/-- Bytes as cells. -/
def u8s (l : List UInt8) : List Value := l.map fun b => .int .u8 b.toNat
@[simp] theorem u8s_length (l : List UInt8) : (u8s l).length = l.length := by simp [u8s]
theorem u8s_one (l : List UInt8) : ∀ u ∈ u8s l, u.oneCell' = true := by
  intro u hu
  obtain ⟨_, _, rfl⟩ := List.mem_map.1 hu
  rfl
theorem u8s_get (l : List UInt8) (j : Nat) (h : j < l.length) : (u8s l)[j]? = some (.int .u8 l[j].toNat) := by
  simp [u8s, h]

end Go.Proofs.YtnjdepojmnniaaaGreatDoor

/- The library's tables, as the walks want them; contracts of the library's functions, in the words of 'Keeps'. -/
namespace Go.Proofs.YtnjdepojmnniaaaGreatDoor
open Go Go.RowKit

/-- unicode/utf8's two tables and strconv's powers of ten lie as their initialisers lay them. -/
structure Tabs (w : World) : Prop where
  utf8 : Lib.Utf8Tabs 0 1 w
  pow : Lib.TabIs Tryz.prog w "internal/strconv.uint64pow10" .u64 Lib.pow10Tab
theorem Keeps.belowSize {w w' : World} (k : Keeps [] w w') : Below w.heap.size w w' := Keeps.below k (B := w.heap.size) (Nat.le_refl _) (fun _ h => absurd h (by simp))
theorem Keeps.ofBelowSize {w w' : World} (h : Below w.heap.size w w') : Keeps [] w w' := Keeps.ofBelow h (fun k (h1 : k < w.heap.size) (h2 : w.heap.size ≤ k) => absurd h1 (Nat.not_lt.2 h2))
theorem gPow : Tryz.prog.globalNamed "internal/strconv.uint64pow10" = some 5 := by kernel_rfl
theorem Tabs.k {w w' : World} (h : Tabs w) (k : Keeps [] w w') : Tabs w' := by
  exact ⟨⟨fun c hc => k.cellSome (h.utf8.1 c hc) (by simp), fun i hi => ⟨k.cellSome (h.utf8.2 i hi).1 (by simp), k.cellSome (h.utf8.2 i hi).2 (by simp)⟩⟩,
    Joins.tab_stays gPow h.pow k.belowSize (Nat.le_refl _)⟩
/-- strconv's two errors are there. -/
def Errs (w : World) : Prop := (∃ tp p, w.var? Tryz.prog "strconv.ErrSyntax" = some #[.iface tp p]) ∧ ∃ tp p, w.var? Tryz.prog "strconv.ErrRange" = some #[.iface tp p]

theorem uCount_any (s : ByteArray) (w : World) (hs : s.size < 9223372036854775807) : Calls Tryz.prog 85 #[.string s] w fun e w' => e = .returned (.int .i64 (Lib.runeCount s)) ∧ Keeps [] w w' :=
  (Tryz.utf8_RuneCountInString s w hs).mono fun _ _ ⟨h1, pos, h2⟩ => ⟨h1, by subst h2; exact (Keeps.refl [] w).alloc _⟩
theorem uDecode_any (s : ByteArray) (w : World) (hT : Tabs w) : Calls Tryz.prog 119 #[.string s] w fun e w' => e = .returned (.tuple #[.int .i32 (Lib.decodeGo s).1, .int .i64 (Lib.decodeGo s).2]) ∧ Keeps [] w w' :=
  (Tryz.utf8_DecodeRuneInString s w hT.utf8).mono fun _ _ h => ⟨h.1, Keeps.ofBelowSize h.2⟩
theorem Keeps.grow (w : World) (k : Nat) (os : Array Obj) : Keeps [] w (Sort.grow (w.drewN k) os) :=
  ⟨rfl, rfl, rfl, by show w.heap.size ≤ (w.heap ++ os).size; simp, fun j hj _ => by show (w.heap ++ os)[j]? = _; rw [Array.getElem?_append_left hj]⟩
end Go.Proofs.YtnjdepojmnniaaaGreatDoor
