/- Joined of VaH, VaX, RfB, RfC, RfF. -/
import Derived.Test.YtnjdepojmnniaaaGreatDoorQ04
import Derived.Lib.ItoaLen
import Derived.Test.YtnjdepojmnniaaaGreatDoorQ02
import Derived.Lib.ValidLaws
import Derived.Test.YtnjdepojmnniaaaGreatDoorQ01

set_option linter.unusedSimpArgs false
set_option linter.unusedVariables false

/- Show: a value as a text. -/
namespace Go.Proofs.YtnjdepojmnniaaaGreatDoor
open Go Go.RowKit

def showL (v : ValD) : List UInt8 :=
  if v.kind = 1 then Lib.itoa v.n else if v.kind = 2 then (if v.n = 1 then [116, 114, 117, 101] else [102, 97, 108, 115, 101]) else if v.kind = 3 then quoteL v.s.data.toList else if v.kind = 4 then 35 :: Lib.itoa v.n else [45]
theorem showL_int (n : Int) (s : ByteArray) : showL ⟨1, n, s⟩ = Lib.itoa n := by simp [showL]
theorem showL_bool (n : Int) (s : ByteArray) : showL ⟨2, n, s⟩ = Lib.formatBool (n == 1) := by
  rcases h : (n == 1) with _ | _
  · have h' : n ≠ 1 := by simpa using h
    simp [showL, h', Lib.formatBool]
    rfl
  · have h' : n = 1 := by simpa using h
    simp [showL, h', Lib.formatBool]
    rfl
theorem showL_text (n : Int) (s : ByteArray) : showL ⟨3, n, s⟩ = quoteL s.data.toList := by simp [showL]
theorem showL_bad (n : Int) (s : ByteArray) : showL ⟨4, n, s⟩ = 35 :: Lib.itoa n := by simp [showL]
def bytes (l : List UInt8) : ByteArray := ⟨l.toArray⟩


end Go.Proofs.YtnjdepojmnniaaaGreatDoor

/- A quoted text read again; shown values are unlike: plain. -/
namespace Go.Proofs.YtnjdepojmnniaaaGreatDoor
open Go

def hexV (b : UInt8) : Option Nat := if 48 ≤ b.toNat ∧ b.toNat ≤ 57 then some (b.toNat - 48) else if 97 ≤ b.toNat ∧ b.toNat ≤ 102 then some (b.toNat - 87) else none
/-- The rune behind a sign, and the bytes it takes; (0, 0): none. -/
def escL : List UInt8 → Nat × Nat
  | _ :: b :: t =>
    if b.toNat = 34 ∨ b.toNat = 92 then (b.toNat, 2) else if b.toNat = 117 then
      match t with
      | h1 :: h2 :: h3 :: h4 :: _ =>
        match hexV h1, hexV h2, hexV h3, hexV h4 with
        | some a, some b, some c, some d => if 55296 ≤ ((a * 16 + b) * 16 + c) * 16 + d ∧ ((a * 16 + b) * 16 + c) * 16 + d ≤ 57343 then (0, 0) else (((a * 16 + b) * 16 + c) * 16 + d, 6)
        | _, _, _, _ => (0, 0)
      | _ => (0, 0)
    else (0, 0)
  | _ => (0, 0)
/-- What stands between the first quote and the next, and the bytes so far. -/
def unqGo : Nat → List UInt8 → List UInt8 → Nat → Option (List UInt8 × Nat)
  | 0, _, _, _ => none
  | f + 1, l, acc, p =>
    if l = [] then none else if (Lib.decodeL l).1 = 34 then some (acc, p + 1)
    else if (Lib.decodeL l).1 = 92 then (if (escL l).2 = 0 then none else unqGo f (l.drop (escL l).2) (acc ++ Lib.encodeRune ((escL l).1 : Int)) (p + (escL l).2))
    else if ((Lib.decodeL l).1 = 65533 ∧ (Lib.decodeL l).2 = 1) ∨ ctlR (Lib.decodeL l).1 = true then none
    else unqGo f (l.drop (Lib.decodeL l).2) (acc ++ Lib.encodeRune ((Lib.decodeL l).1 : Int)) (p + (Lib.decodeL l).2)
def unqL (l : List UInt8) : Option (List UInt8 × Nat) :=
  match l with
  | [] => none
  | b :: t => if b.toNat = 34 then unqGo (t.length + 1) t [] 1 else none

theorem unqGo_succ (f : Nat) (l acc : List UInt8) (p : Nat) : unqGo (f + 1) l acc p =
    if l = [] then none else if (Lib.decodeL l).1 = 34 then some (acc, p + 1)
    else if (Lib.decodeL l).1 = 92 then (if (escL l).2 = 0 then none else unqGo f (l.drop (escL l).2) (acc ++ Lib.encodeRune ((escL l).1 : Int)) (p + (escL l).2))
    else if ((Lib.decodeL l).1 = 65533 ∧ (Lib.decodeL l).2 = 1) ∨ ctlR (Lib.decodeL l).1 = true then none
    else unqGo f (l.drop (Lib.decodeL l).2) (acc ++ Lib.encodeRune ((Lib.decodeL l).1 : Int)) (p + (Lib.decodeL l).2) := rfl
theorem decode_byte (b : UInt8) (t : List UInt8) (h : b.toNat < 128) : Lib.decodeL (b :: t) = (b.toNat, 1) := by
  rw [Lib.decodeL_N]
  simp only [List.getD_cons_zero]
  rw [Lib.decodeN_ascii _ _ _ _ _ h]
theorem hexV_fin : ∀ n : Fin 16, hexV (hexD n.val) = some n.val := by decide +kernel
theorem hexV_hexD (n : Nat) (h : n < 16) : hexV (hexD n) = some n := hexV_fin ⟨n, h⟩
theorem enc_one (r : Nat) (h : r < 128) : Lib.encodeRune (r : Int) = [UInt8.ofNat r] := enc1 r h

theorem enc_len (r : Int) : (Lib.encodeRune r).length = (Lib.encodeRuneZ r).length := by simp [Lib.encodeRune]

theorem unq_rune (f : Nat) (r : Nat) (hv : r < 55296 ∨ (57344 ≤ r ∧ r ≤ 1114111)) (t acc : List UInt8) (p : Nat) :
    unqGo (f + 1) (quoteR r ++ t) acc p = unqGo f t (acc ++ Lib.encodeRune (r : Int)) (p + (quoteR r).length) := by
  by_cases hs : r = 34 ∨ r = 92
  · rw [quoteR_sign hs, enc_one r (by omega)]
    have hb : (UInt8.ofNat r).toNat = r := ofNat_toNat r (by omega)
    have hd : Lib.decodeL (92 :: UInt8.ofNat r :: t) = (92, 1) := decode_byte 92 _ (by decide)
    have he : escL (92 :: UInt8.ofNat r :: t) = (r, 2) := by
      show (if (UInt8.ofNat r).toNat = 34 ∨ (UInt8.ofNat r).toNat = 92 then ((UInt8.ofNat r).toNat, 2) else _) = _
      rw [hb, if_pos hs]
    show unqGo (f + 1) (92 :: UInt8.ofNat r :: t) acc p = _
    rw [unqGo_succ]
    rw [if_neg (by simp), hd, if_neg (by simp), if_pos rfl, he, if_neg (by simp)]
    simp only [enc_one r (by omega : r < 128)]
    rfl
  · by_cases hc : ctlR r = true
    · have hr : r < 256 := by simp [ctlR] at hc; omega
      rw [quoteR_ctl hc]
      have hd : Lib.decodeL (92 :: 117 :: 48 :: 48 :: hexD (r / 16) :: hexD (r % 16) :: t) = (92, 1) := decode_byte 92 _ (by decide)
      have he : escL (92 :: 117 :: 48 :: 48 :: hexD (r / 16) :: hexD (r % 16) :: t) = (r, 6) := by
        have e0 : hexV 48 = some 0 := by decide
        show (if (117 : UInt8).toNat = 34 ∨ (117 : UInt8).toNat = 92 then ((117 : UInt8).toNat, 2) else if (117 : UInt8).toNat = 117 then (match hexV 48, hexV 48, hexV (hexD (r / 16)), hexV (hexD (r % 16)) with
          | some a, some b, some c, some d => if 55296 ≤ ((a * 16 + b) * 16 + c) * 16 + d ∧ ((a * 16 + b) * 16 + c) * 16 + d ≤ 57343 then (0, 0) else (((a * 16 + b) * 16 + c) * 16 + d, 6)
          | _, _, _, _ => (0, 0)) else (0, 0)) = _
        rw [if_neg (by decide), if_pos (by decide)]
        simp only [e0, hexV_hexD (r / 16) (by omega), hexV_hexD (r % 16) (by omega)]
        rw [if_neg (by omega)]
        exact Prod.ext (by show ((0 * 16 + 0) * 16 + r / 16) * 16 + r % 16 = r; omega) rfl
      show unqGo (f + 1) (92 :: 117 :: 48 :: 48 :: hexD (r / 16) :: hexD (r % 16) :: t) acc p = _
      rw [unqGo_succ]
      rw [if_neg (by simp), hd, if_neg (by simp), if_pos rfl, he, if_neg (by simp)]
      rfl
    · have hc' : ctlR r = false := by simpa using hc
      rw [quoteR_any hs hc']
      have hd := decode_encode r hv t
      have hne : Lib.encodeRune (r : Int) ++ t ≠ [] := by
        intro h
        have h1 := Lib.encodeRuneZ_length (r : Int)
        have h2 : (Lib.encodeRune (r : Int)).length = 0 := by rw [(List.append_eq_nil_iff.1 h).1]; rfl
        rw [enc_len] at h2
        omega
      have h3 : ¬ (r = 65533 ∧ (Lib.encodeRune (r : Int)).length = 1) := by
        rintro ⟨rfl, h⟩
        rw [enc3 65533 (by omega)] at h
        simp at h
      show unqGo (f + 1) (Lib.encodeRune (r : Int) ++ t) acc p = _
      rw [unqGo_succ]
      rw [if_neg hne, hd]
      rw [if_neg (by show ¬ r = 34; omega), if_neg (by show ¬ r = 92; omega), if_neg (fun h => h.elim h3 hc)]
      show unqGo f ((Lib.encodeRune (r : Int) ++ t).drop (Lib.encodeRune (r : Int)).length) _ _ = _
      rw [List.drop_left']
      rfl

/-- A text that may be, quoted, is read again. -/
theorem unq_quoteGo : ∀ (f g : Nat) (l t acc : List UInt8) (p : Nat), l.length ≤ f → l.length < g → Lib.validD l = true →
    unqGo g (quoteGo f l ++ 34 :: t) acc p = some (acc ++ l, p + (quoteGo f l).length + 1)
  | f, 0, l, t, acc, p, _, hg, _ => by omega
  | 0, g + 1, l, t, acc, p, hf, _, _ => by
    obtain rfl : l = [] := List.eq_nil_of_length_eq_zero (by omega)
    have hd : Lib.decodeL (34 :: t) = (34, 1) := decode_byte 34 _ (by decide)
    show unqGo (g + 1) (34 :: t) acc p = _
    rw [unqGo_succ]
    rw [if_neg (by simp), hd, if_pos rfl]
    simp [quoteGo]
  | f + 1, g + 1, l, t, acc, p, hf, hg, hv => by
    by_cases hne : l = []
    · subst hne
      have hd : Lib.decodeL (34 :: t) = (34, 1) := decode_byte 34 _ (by decide)
      rw [quoteGo_nil]
      show unqGo (g + 1) (34 :: t) acc p = _
      rw [unqGo_succ]
      rw [if_neg (by simp), hd, if_pos rfl]
      simp
    · have hw := Lib.decodeL_width l
      have hl : 0 < l.length := List.length_pos_iff.2 hne
      rw [Lib.validD_step l hne] at hv
      have hb : ¬ ((Lib.decodeL l).1 = 65533 ∧ (Lib.decodeL l).2 = 1) := by
        intro h; rw [if_pos h] at hv; cases hv
      rw [if_neg hb] at hv
      have henc := Lib.encode_decode l hne hb
      have hq : quoteGo (f + 1) l = quoteR (Lib.decodeL l).1 ++ quoteGo f (l.drop (Lib.decodeL l).2) := by rw [quoteGo, if_neg hne]
      rw [hq, List.append_assoc, unq_rune g _ (decodeL_valid l), unq_quoteGo f g (l.drop (Lib.decodeL l).2) t _ _ (by rw [List.length_drop]; omega) (by rw [List.length_drop]; omega) hv, henc]
      congr 1
      refine Prod.ext ?_ ?_
      · show acc ++ l.take _ ++ l.drop _ = acc ++ l
        rw [List.append_assoc, List.take_append_drop]
      · show p + (quoteR _).length + (quoteGo f _).length + 1 = p + (quoteR _ ++ quoteGo f _).length + 1
        rw [List.length_append]; omega
theorem unq_len (f : Nat) : ∀ (l : List UInt8), l.length ≤ f → Lib.validD l = true → l.length ≤ (quoteGo f l).length := by
  induction f with
  | zero => intro l h _; omega
  | succ f ih =>
    intro l h hv
    unfold quoteGo
    by_cases hne : l = []
    · simp [hne]
    · have hw := Lib.decodeL_width l
      have hl : 0 < l.length := List.length_pos_iff.2 hne
      rw [Lib.validD_step l hne] at hv
      have hb : ¬ ((Lib.decodeL l).1 = 65533 ∧ (Lib.decodeL l).2 = 1) := by
        intro h; rw [if_pos h] at hv; cases hv
      rw [if_neg hb] at hv
      have henc := congrArg List.length (Lib.encode_decode l hne hb)
      have hle := Lib.decodeL_le l hne
      rw [List.length_take, Nat.min_eq_left hle] at henc
      have h4 := Lib.encodeRuneZ_length ((Lib.decodeL l).1 : Int)
      rw [← enc_len] at h4
      have hq : (Lib.decodeL l).2 ≤ (quoteR (Lib.decodeL l).1).length := by
        unfold quoteR
        repeat' split
        · simp; omega
        · simp; omega
        · omega
      rw [if_neg hne, List.length_append]
      have h1 := ih (l.drop (Lib.decodeL l).2) (by rw [List.length_drop]; omega) hv
      rw [List.length_drop] at h1
      omega
theorem unq_quote (l t : List UInt8) (hv : Lib.validD l = true) : unqL (quoteL l ++ t) = some (l, (quoteL l).length) := by
  have hl := unq_len l.length l (Nat.le_refl _) hv
  have e : quoteL l ++ t = 34 :: (quoteGo l.length l ++ 34 :: t) := by simp [quoteL]
  rw [e]
  show (if (34 : UInt8).toNat = 34 then unqGo ((quoteGo l.length l ++ 34 :: t).length + 1) (quoteGo l.length l ++ 34 :: t) [] 1 else none) = _
  rw [if_pos (by decide), unq_quoteGo l.length _ l t [] 1 (Nat.le_refl _) (by simp; omega) hv]
  simp [quoteL]
  omega
theorem quoteL_inj {l m : List UInt8} (hl : Lib.validD l = true) (hm : Lib.validD m = true) (h : quoteL l = quoteL m) : l = m := by
  have h1 := unq_quote l [] hl
  have h2 := unq_quote m [] hm
  rw [h, h2] at h1
  exact ((Prod.mk.inj (Option.some.inj h1)).1).symm

/-- What digits say. -/
def numOf (l : List UInt8) : Nat := l.foldl (fun a b => a * 10 + (b.toNat - 48)) 0
theorem numOf_snoc (l : List UInt8) (b : UInt8) : numOf (l ++ [b]) = numOf l * 10 + (b.toNat - 48) := by simp [numOf]
theorem numOf_digits (u : Nat) : numOf (Lib.decDigits u) = u := by
  induction u using Nat.strongRecOn with
  | _ u ih =>
    rw [Lib.decDigits]
    by_cases h : u < 10
    · rw [dif_pos h]
      show 0 * 10 + ((UInt8.ofNat (48 + u)).toNat - 48) = u
      rw [ofNat_toNat _ (by omega)]
      omega
    · rw [dif_neg h, numOf_snoc, ih (u / 10) (by omega), ofNat_toNat _ (by omega)]
      omega
theorem digits_inj {u v : Nat} (h : Lib.decDigits u = Lib.decDigits v) : u = v := by rw [← numOf_digits u, h, numOf_digits]
theorem digits_first {u : Nat} {b : UInt8} {t : List UInt8} (h : Lib.decDigits u = b :: t) : 48 ≤ b.toNat ∧ b.toNat ≤ 57 := digits_bd u b (by rw [h]; simp)
theorem itoa_inj {n m : Int} (h : Lib.itoa n = Lib.itoa m) : n = m := by
  unfold Lib.itoa at h
  split at h <;> split at h
  · have := digits_inj (List.cons.inj h).2; omega
  · have := digits_first h.symm; simp at this
  · have := digits_first h; simp at this
  · have := digits_inj h; omega
theorem itoa_line {n : Int} : Lib.itoa n ≠ [45] := by
  unfold Lib.itoa
  split
  · intro h; exact digits_ne _ (List.cons.inj h).2
  · intro h; have := digits_first h; simp at this
theorem itoa_first {n : Int} {b : UInt8} {t : List UInt8} (h : Lib.itoa n = b :: t) : 45 ≤ b.toNat ∧ b.toNat ≤ 57 := itoa_bd n b (by rw [h]; simp)

theorem checkD_cases {v : ValD} (h : checkD v = true) : (v.kind = 0 ∧ v.n = 0 ∧ v.s = ⟨#[]⟩) ∨ (v.kind = 1 ∧ v.s = ⟨#[]⟩) ∨ (v.kind = 2 ∧ (v.n = 0 ∨ v.n = 1) ∧ v.s = ⟨#[]⟩) ∨ (v.kind = 3 ∧ v.n = 0 ∧ Lib.validD v.s.data.toList = true) ∨ (v.kind = 4 ∧ v.s = ⟨#[]⟩) := by
  have he : emptyB v.s = true → v.s = ⟨#[]⟩ := fun h => by
    have h1 := emptyB_data h
    obtain ⟨k, n, ⟨⟨s⟩⟩⟩ := v
    simp at h1 ⊢
    exact h1
  unfold checkD at h
  repeat' split at h
  · simp at h; exact .inl ⟨by assumption, h.1, he h.2⟩
  · exact .inr (.inl ⟨by assumption, he h⟩)
  · simp at h; exact .inr (.inr (.inl ⟨by assumption, h.1, he h.2⟩))
  · simp [textOk] at h; exact .inr (.inr (.inr (.inl ⟨by assumption, h.1, h.2.2.1⟩)))
  · simp at h; exact .inr (.inr (.inr (.inr ⟨by assumption, he h.2⟩)))
  · cases h
theorem showL_of (v : ValD) : showL v = if v.kind = 1 then Lib.itoa v.n else if v.kind = 2 then (if v.n = 1 then [116, 114, 117, 101] else [102, 97, 108, 115, 101]) else if v.kind = 3 then quoteL v.s.data.toList else if v.kind = 4 then 35 :: Lib.itoa v.n else [45] := rfl
/-- Which kind a shown text is. -/
def tagL (l : List UInt8) : Int :=
  if l = [45] then 0 else match l with
    | b :: _ => if b.toNat = 34 then 3 else if b.toNat = 35 then 4 else if b.toNat = 116 ∨ b.toNat = 102 then 2 else 1
    | [] => 1
theorem tag_show {v : ValD} (hv : checkD v = true) : tagL (showL v) = v.kind := by
  obtain ⟨k, n, s⟩ := v
  have A := checkD_cases hv
  dsimp only at A
  rcases A with ⟨rfl, rfl, rfl⟩ | ⟨rfl, rfl⟩ | ⟨rfl, a1, rfl⟩ | ⟨rfl, rfl, a1⟩ | ⟨rfl, rfl⟩
  · rfl
  · rw [showL_int]
    unfold tagL
    rw [if_neg itoa_line]
    rcases h : Lib.itoa n with _ | ⟨b, t⟩
    · rfl
    · have := itoa_first h
      show (if _ then _ else _) = _
      rw [if_neg (by omega), if_neg (by omega), if_neg (by omega)]
  · rcases a1 with rfl | rfl <;> rfl
  · rw [showL_text]
    unfold tagL
    rw [if_neg (by simp [quoteL])]
    rfl
  · rw [showL_bad]
    unfold tagL
    rw [if_neg (by simp)]
    rfl
theorem showL_inj {v u : ValD} (hv : checkD v = true) (hu : checkD u = true) (h : showL v = showL u) : v = u := by
  have hk : v.kind = u.kind := by rw [← tag_show hv, h, tag_show hu]
  obtain ⟨k, n, s⟩ := v
  obtain ⟨k', n', s'⟩ := u
  have A := checkD_cases hv
  have B := checkD_cases hu
  dsimp only at A B hk
  subst hk
  rcases A with ⟨rfl, rfl, rfl⟩ | ⟨rfl, rfl⟩ | ⟨rfl, a1, rfl⟩ | ⟨rfl, rfl, a1⟩ | ⟨rfl, rfl⟩
  · rcases B with ⟨_, rfl, rfl⟩ | ⟨h, _⟩ | ⟨h, _⟩ | ⟨h, _⟩ | ⟨h, _⟩ <;> first | rfl | (exact absurd h (by decide))
  · rcases B with ⟨h', _⟩ | ⟨_, rfl⟩ | ⟨h', _⟩ | ⟨h', _⟩ | ⟨h', _⟩ <;> first | (exact absurd h' (by decide)) | skip
    rw [showL_int, showL_int] at h
    rw [itoa_inj h]
  · rcases B with ⟨h', _⟩ | ⟨h', _⟩ | ⟨_, b1, rfl⟩ | ⟨h', _⟩ | ⟨h', _⟩ <;> first | (exact absurd h' (by decide)) | skip
    rcases a1 with rfl | rfl <;> rcases b1 with rfl | rfl <;> first | rfl | (exact absurd h (by decide))
  · rcases B with ⟨h', _⟩ | ⟨h', _⟩ | ⟨h', _⟩ | ⟨_, rfl, b1⟩ | ⟨h', _⟩ <;> first | (exact absurd h' (by decide)) | skip
    rw [showL_text, showL_text] at h
    have := quoteL_inj a1 b1 h
    have e : s = s' := by
      obtain ⟨⟨l⟩⟩ := s
      obtain ⟨⟨m⟩⟩ := s'
      simp at this
      rw [this]
    rw [e]
  · rcases B with ⟨h', _⟩ | ⟨h', _⟩ | ⟨h', _⟩ | ⟨h', _⟩ | ⟨_, rfl⟩ <;> first | (exact absurd h' (by decide)) | skip
    rw [showL_bad, showL_bad] at h
    rw [itoa_inj (List.cons.inj h).2]

end Go.Proofs.YtnjdepojmnniaaaGreatDoor

/- The document's bytes of a rune. -/
namespace Go.Proofs.YtnjdepojmnniaaaGreatDoor
open Go Go.RowKit

def byL (r : Nat) : List UInt8 :=
  if r < 128 then [UInt8.ofNat r] else if r < 2048 then [UInt8.ofNat (192 + r / 64), UInt8.ofNat (128 + r % 64)]
  else if r < 65536 then [UInt8.ofNat (224 + r / 4096), UInt8.ofNat (128 + r / 64 % 64), UInt8.ofNat (128 + r % 64)]
  else [UInt8.ofNat (240 + r / 262144), UInt8.ofNat (128 + r / 4096 % 64), UInt8.ofNat (128 + r / 64 % 64), UInt8.ofNat (128 + r % 64)]

theorem conv_cells (w : World) (n : Nat) (xs : List UInt8) (hn : xs.length = n) (hp : 0 < n) (hm : n ≤ 1000) (cs : Array Value) (hcs : cs = (u8s xs).toArray) :
    (convert 36 9 (.slice (some ⟨w.heap.size, 0, none⟩) n n)).run Tryz.prog (w.alloc (.cells cs 5)) = .ok (.string (str xs)) (w.alloc (.cells cs 5)) := by
  subst hn hcs
  refine run_convert_str _ 36 9 5 _ xs Tryz.underlying36 Tryz.underlying5 Tryz.underlying9 ⟨by simp, .inr ⟨hp, _, _, _, rfl, Nat.le_refl _, le_maxLen (by omega), by simp, fun j u hu => ?_⟩⟩
  rw [cell_of_row _ _ _ _ _ _ (heap_alloc_new w _)]
  simpa using hu

set_option maxRecDepth 100000 in
set_option maxHeartbeats 800000 in
theorem r1Bytes_any (r : Nat) (hr : r < 2097152) (w : World) : Calls Tryz.prog 112 #[.int .i32 r] w fun e w' => e = .returned (.string (str (byL r))) ∧ Keeps [] w w' := by
  have r0 : (0 : Int) ≤ (r : Int) := Int.natCast_nonneg _
  by_cases h1 : r < 128
  · have h1' : (r : Int) < 128 := by omega
    have HE : Hid (byL r = [UInt8.ofNat (r)]) := (by unfold byL; rw [if_pos h1] : byL r = [UInt8.ofNat (r)])
    have cv := conv_cells w 1 [UInt8.ofNat (r)] rfl (by decide) (by decide) #[.int .u8 ((r : Int))] (by simp [u8s]; omega)
    obtain ⟨xs, hxs⟩ : ∃ xs, [UInt8.ofNat (r)] = xs := ⟨_, rfl⟩
    rw [hxs] at cv HE
    clear hxs h1
    clear hr
    go_enter Tryz.func112, Tryz.ntmps112
    go_wp2_with fail
    go_ret
    rw [HE.out]
    exact ⟨rfl, by exact Keeps.K⟩
  by_cases h2 : r < 2048
  · have h2' : (r : Int) < 2048 := by omega
    have g0 : (128 : Int) ≤ (r : Int) := by omega
    have e0 : ((r : Int) < 128) = False := by simp; omega
    have HE : Hid (byL r = [UInt8.ofNat (192 + r / 64), UInt8.ofNat (128 + r % 64)]) := (by unfold byL; rw [if_neg h1]; rw [if_pos h2] : byL r = [UInt8.ofNat (192 + r / 64), UInt8.ofNat (128 + r % 64)])
    have cv := conv_cells w 2 [UInt8.ofNat (192 + r / 64), UInt8.ofNat (128 + r % 64)] rfl (by decide) (by decide) #[.int .u8 (192 + (r : Int) / 64), .int .u8 (128 + (r : Int) % 64)] (by simp [u8s]; omega)
    obtain ⟨xs, hxs⟩ : ∃ xs, [UInt8.ofNat (192 + r / 64), UInt8.ofNat (128 + r % 64)] = xs := ⟨_, rfl⟩
    rw [hxs] at cv HE
    clear hxs h1 h2
    clear hr
    go_enter Tryz.func112, Tryz.ntmps112
    go_wp2_with fail
    go_ret
    rw [HE.out]
    exact ⟨rfl, by exact Keeps.K⟩
  by_cases h3 : r < 65536
  · have h3' : (r : Int) < 65536 := by omega
    have g0 : (128 : Int) ≤ (r : Int) := by omega
    have e0 : ((r : Int) < 128) = False := by simp; omega
    have g1 : (2048 : Int) ≤ (r : Int) := by omega
    have e1 : ((r : Int) < 2048) = False := by simp; omega
    have HE : Hid (byL r = [UInt8.ofNat (224 + r / 4096), UInt8.ofNat (128 + r / 64 % 64), UInt8.ofNat (128 + r % 64)]) := (by unfold byL; rw [if_neg h1]; rw [if_neg h2]; rw [if_pos h3] : byL r = [UInt8.ofNat (224 + r / 4096), UInt8.ofNat (128 + r / 64 % 64), UInt8.ofNat (128 + r % 64)])
    have cv := conv_cells w 3 [UInt8.ofNat (224 + r / 4096), UInt8.ofNat (128 + r / 64 % 64), UInt8.ofNat (128 + r % 64)] rfl (by decide) (by decide) #[.int .u8 (224 + (r : Int) / 4096), .int .u8 (128 + (r : Int) / 64 % 64), .int .u8 (128 + (r : Int) % 64)] (by simp [u8s]; omega)
    obtain ⟨xs, hxs⟩ : ∃ xs, [UInt8.ofNat (224 + r / 4096), UInt8.ofNat (128 + r / 64 % 64), UInt8.ofNat (128 + r % 64)] = xs := ⟨_, rfl⟩
    rw [hxs] at cv HE
    clear hxs h1 h2 h3
    clear hr
    go_enter Tryz.func112, Tryz.ntmps112
    go_wp2_with fail
    go_ret
    rw [HE.out]
    exact ⟨rfl, by exact Keeps.K⟩
  have g0 : (128 : Int) ≤ (r : Int) := by omega
  have e0 : ((r : Int) < 128) = False := by simp; omega
  have g1 : (2048 : Int) ≤ (r : Int) := by omega
  have e1 : ((r : Int) < 2048) = False := by simp; omega
  have g2 : (65536 : Int) ≤ (r : Int) := by omega
  have e2 : ((r : Int) < 65536) = False := by simp; omega
  have HE : Hid (byL r = [UInt8.ofNat (240 + r / 262144), UInt8.ofNat (128 + r / 4096 % 64), UInt8.ofNat (128 + r / 64 % 64), UInt8.ofNat (128 + r % 64)]) := (by unfold byL; rw [if_neg h1]; rw [if_neg h2]; rw [if_neg h3] : byL r = [UInt8.ofNat (240 + r / 262144), UInt8.ofNat (128 + r / 4096 % 64), UInt8.ofNat (128 + r / 64 % 64), UInt8.ofNat (128 + r % 64)])
  have cv := conv_cells w 4 [UInt8.ofNat (240 + r / 262144), UInt8.ofNat (128 + r / 4096 % 64), UInt8.ofNat (128 + r / 64 % 64), UInt8.ofNat (128 + r % 64)] rfl (by decide) (by decide) #[.int .u8 (240 + (r : Int) / 262144), .int .u8 (128 + (r : Int) / 4096 % 64), .int .u8 (128 + (r : Int) / 64 % 64), .int .u8 (128 + (r : Int) % 64)] (by simp [u8s]; omega)
  obtain ⟨xs, hxs⟩ : ∃ xs, [UInt8.ofNat (240 + r / 262144), UInt8.ofNat (128 + r / 4096 % 64), UInt8.ofNat (128 + r / 64 % 64), UInt8.ofNat (128 + r % 64)] = xs := ⟨_, rfl⟩
  rw [hxs] at cv HE
  clear hxs h1 h2 h3
  have hrI : (r : Int) < 2097152 := by omega
  clear hr
  go_enter Tryz.func112, Tryz.ntmps112
  go_wp2_with fail
  go_ret
  rw [HE.out]
  exact ⟨rfl, by exact Keeps.K⟩

theorem byL_enc {r : Nat} (h : r < 55296 ∨ (57344 ≤ r ∧ r ≤ 1114111)) : byL r = Lib.encodeRune (r : Int) := by
  unfold byL
  repeat' split
  · rw [enc1 r (by omega)]
  · rw [enc2 r (by omega) (by omega)]
  · rw [enc3 r (by omega)]
  · rw [enc4 r (by omega) (by omega)]

end Go.Proofs.YtnjdepojmnniaaaGreatDoor

/- The document's text in its signs: Quote. -/
namespace Go.Proofs.YtnjdepojmnniaaaGreatDoor
open Go Go.RowKit

theorem hex16_fin : ∀ d : Fin 16, (⟨#[48, 49, 50, 51, 52, 53, 54, 55, 56, 57, 97, 98, 99, 100, 101, 102]⟩ : ByteArray).extract d.val (d.val + 1) = str [hexD d.val] := by decide +kernel
theorem hex_slice (d : Nat) (h : d < 16) : (⟨#[48, 49, 50, 51, 52, 53, 54, 55, 56, 57, 97, 98, 99, 100, 101, 102]⟩ : ByteArray).extract d (d + 1) = str [hexD d] := hex16_fin ⟨d, h⟩
theorem extract_str (s : ByteArray) (p n : Nat) : s.extract p (p + n) = str ((s.data.toList.drop p).take n) := by
  refine ByteArray.ext ?_
  rw [ByteArray.data_extract]
  apply Array.toList_inj.1
  simp [str, Array.toList_extract, List.take_drop]

/-- Pieces of a text that may be: k of them written, up «to» place p. -/
def QP (l : List UInt8) (k p : Nat) (acc : List UInt8) : Prop := QAt l acc p ∧ Lib.validD (l.drop p) = true ∧ PcsAt l ((pieces l).take k) p
theorem QP.zero {l : List UInt8} (h : Lib.validD l = true) : QP l 0 0 [34] := ⟨QAt.zero l, by simpa using h, by simpa using PcsAt.zero l⟩
theorem QP.next {l acc : List UInt8} {k p : Nat} (h : QP l k p acc) (hk : k < (pieces l).length) :
    ∃ x, (pieces l)[k]? = some x ∧ x.at_ = p ∧ p < l.length ∧ (x.r < 55296 ∨ (57344 ≤ x.r ∧ x.r ≤ 1114111)) ∧ (l.drop p).take x.n = Lib.encodeRune (x.r : Int) ∧ p + x.n ≤ l.length ∧ QP l (k + 1) (p + x.n) (acc ++ quoteR x.r) := by
  obtain ⟨hq, hv, hp⟩ := h
  have hlen : ((pieces l).take k).length = k := by rw [List.length_take]; omega
  have hlt : p < l.length := by
    rcases Nat.lt_or_ge p l.length with h | h
    · exact h
    · have := (hp.end_ (by omega)).1
      rw [← this, hlen] at hk
      omega
  have hne : l.drop p ≠ [] := by simp; omega
  have hs := pcs_step (p := p) hne
  rw [List.length_drop] at hs
  have hx : (pieces l)[k]? = some ⟨p, (Lib.decodeL (l.drop p)).2, (Lib.decodeL (l.drop p)).1, badL (l.drop p)⟩ := by
    have h3 := hp.2.2
    rw [hs] at h3
    rw [h3, List.getElem?_append_right (by rw [hlen]; exact Nat.le_refl _), hlen]
    simp
  have hb : ¬ ((Lib.decodeL (l.drop p)).1 = 65533 ∧ (Lib.decodeL (l.drop p)).2 = 1) := by
    intro h; rw [Lib.validD_step _ hne, if_pos h] at hv; cases hv
  have hv2 := hv
  rw [Lib.validD_step _ hne, if_neg hb, List.drop_drop] at hv2
  have hle := Lib.decodeL_le (l.drop p) hne
  rw [List.length_drop] at hle
  have hn := hp.next hlt
  have ht : (pieces l).take (k + 1) = (pieces l).take k ++ [⟨p, (Lib.decodeL (l.drop p)).2, (Lib.decodeL (l.drop p)).1, badL (l.drop p)⟩] := by
    rw [List.take_add_one, hx]; rfl
  refine ⟨_, hx, rfl, hlt, decodeL_valid _, (Lib.encode_decode _ hne hb).symm, by show p + (Lib.decodeL (l.drop p)).2 ≤ _; omega, hq.next hlt, hv2, ?_⟩
  rw [ht]; exact hn
theorem QP.end_ {l acc : List UInt8} {k p : Nat} (h : QP l k p acc) (hk : ¬ k < (pieces l).length) : quoteL l = acc ++ [34] := by
  refine h.1.end_ fun hlt => ?_
  have hp := h.2.2
  rw [List.take_of_length_le (by omega)] at hp
  have hne : l.drop p ≠ [] := by simp; omega
  have hs := pcs_step (p := p) hne
  rw [List.length_drop] at hs
  have h3 := congrArg List.length hp.2.2
  rw [hs, List.length_append, List.length_cons] at h3
  omega

end Go.Proofs.YtnjdepojmnniaaaGreatDoor

/- The document's reading of a quoted text: bare. -/
namespace Go.Proofs.YtnjdepojmnniaaaGreatDoor
open Go Go.RowKit

/-- Digits «to» the base of sixteen, read. -/
def hx : List UInt8 → Nat → Option Nat
  | [], v => some v
  | c :: r, v => match hexV c with
    | none => none
    | some d => hx r (v * 16 + d)
def bareGo (l acc : List UInt8) : Option (List UInt8) :=
  match l with
  | [] => some acc
  | c :: r => if c.toNat ≠ 92 then bareGo r (acc ++ [c]) else match r with
    | [] => none
    | d :: t => if d.toNat ≠ 117 then bareGo t (acc ++ [d]) else if t.length < 4 then none else match hx (t.take 4) 0 with
      | none => none
      | some v => bareGo (t.drop 4) (acc ++ byL v)
termination_by l.length
decreasing_by all_goals simp <;> omega
theorem bareGo_nil (acc : List UInt8) : bareGo [] acc = some acc := by rw [bareGo.eq_def]
theorem bareGo_any {c : UInt8} (h : c.toNat ≠ 92) (r acc : List UInt8) : bareGo (c :: r) acc = bareGo r (acc ++ [c]) := by rw [bareGo.eq_def]; dsimp only; rw [if_pos h]
theorem bareGo_sign {c d : UInt8} (h : c.toNat = 92) (h2 : d.toNat ≠ 117) (t acc : List UInt8) : bareGo (c :: d :: t) acc = bareGo t (acc ++ [d]) := by rw [bareGo.eq_def]; dsimp only; rw [if_neg (by omega), if_pos h2]
theorem bareGo_end {c : UInt8} (h : c.toNat = 92) (acc : List UInt8) : bareGo [c] acc = none := by rw [bareGo.eq_def]; dsimp only; rw [if_neg (by omega)]
theorem bareGo_short {c d : UInt8} (h : c.toNat = 92) (h2 : d.toNat = 117) {t : List UInt8} (ht : t.length < 4) (acc : List UInt8) : bareGo (c :: d :: t) acc = none := by rw [bareGo.eq_def]; dsimp only; rw [if_neg (by omega), if_neg (by omega), if_pos ht]
theorem bareGo_hex {c d : UInt8} (h : c.toNat = 92) (h2 : d.toNat = 117) {t : List UInt8} (ht : ¬ t.length < 4) (acc : List UInt8) : bareGo (c :: d :: t) acc = match hx (t.take 4) 0 with
      | none => none
      | some v => bareGo (t.drop 4) (acc ++ byL v) := by rw [bareGo.eq_def]; dsimp only; rw [if_neg (by omega), if_neg (by omega), if_neg ht]
theorem bareGo_bytes : ∀ (bs : List UInt8), (∀ b ∈ bs, b.toNat ≠ 92) → ∀ (r acc : List UInt8), bareGo (bs ++ r) acc = bareGo r (acc ++ bs)
  | [], _, r, acc => by simp
  | b :: bs, h, r, acc => by
    show bareGo (b :: (bs ++ r)) acc = _
    rw [bareGo_any (h b (by simp)), bareGo_bytes bs (fun x hx => h x (by simp [hx]))]
    simp
theorem enc_no92 {r : Nat} (h : r ≠ 92) (hv : r < 55296 ∨ (57344 ≤ r ∧ r ≤ 1114111)) : ∀ b ∈ Lib.encodeRune (r : Int), b.toNat ≠ 92 := by
  intro b hb
  rw [← byL_enc hv] at hb
  unfold byL at hb
  split at hb
  · simp at hb; subst hb; rw [ofNat_toNat _ (by omega)]; exact h
  · split at hb
    · simp only [List.mem_cons, List.not_mem_nil, or_false] at hb
      rcases hb with rfl | rfl <;> (rw [ofNat_toNat _ (by omega)]; omega)
    · split at hb
      · simp only [List.mem_cons, List.not_mem_nil, or_false] at hb
        rcases hb with rfl | rfl | rfl <;> (rw [ofNat_toNat _ (by omega)]; omega)
      · simp only [List.mem_cons, List.not_mem_nil, or_false] at hb
        rcases hb with rfl | rfl | rfl | rfl <;> (rw [ofNat_toNat _ (by omega)]; omega)
theorem bareGo_rune {r : Nat} (hv : r < 55296 ∨ (57344 ≤ r ∧ r ≤ 1114111)) (t acc : List UInt8) : bareGo (quoteR r ++ t) acc = bareGo t (acc ++ Lib.encodeRune (r : Int)) := by
  by_cases hs : r = 34 ∨ r = 92
  · rw [quoteR_sign hs, enc_one r (by omega)]
    have hb : (UInt8.ofNat r).toNat = r := ofNat_toNat r (by omega)
    exact bareGo_sign rfl (by rw [hb]; omega) t acc
  · by_cases hc : ctlR r = true
    · have hr : r < 256 := by simp [ctlR] at hc; omega
      rw [quoteR_ctl hc]
      show bareGo (92 :: 117 :: ([48, 48, hexD (r / 16), hexD (r % 16)] ++ t)) acc = _
      rw [bareGo_hex rfl rfl (by simp)]
      have e0 : hexV 48 = some 0 := by decide
      have e : hx (([48, 48, hexD (r / 16), hexD (r % 16)] ++ t).take 4) 0 = some r := by
        show hx [48, 48, hexD (r / 16), hexD (r % 16)] 0 = _
        simp only [hx, e0, hexV_hexD (r / 16) (by omega), hexV_hexD (r % 16) (by omega)]
        congr 1
        omega
      rw [e]
      show bareGo t (acc ++ byL r) = _
      rw [byL_enc hv]
    · rw [quoteR_any hs (by simpa using hc), bareGo_bytes _ (enc_no92 (by omega) hv)]
theorem bareGo_quote : ∀ (f : Nat) (l acc : List UInt8), l.length ≤ f → Lib.validD l = true → bareGo (quoteGo f l) acc = some (acc ++ l)
  | 0, l, acc, hf, _ => by
    obtain rfl : l = [] := List.eq_nil_of_length_eq_zero (by omega)
    rw [quoteGo_nil, bareGo_nil]; simp
  | f + 1, l, acc, hf, hv => by
    by_cases hne : l = []
    · subst hne; rw [quoteGo_nil, bareGo_nil]; simp
    · have hw := Lib.decodeL_width l
      have hl : 0 < l.length := List.length_pos_iff.2 hne
      rw [Lib.validD_step l hne] at hv
      have hb : ¬ ((Lib.decodeL l).1 = 65533 ∧ (Lib.decodeL l).2 = 1) := by
        intro h; rw [if_pos h] at hv; cases hv
      rw [if_neg hb] at hv
      have henc := Lib.encode_decode l hne hb
      have hq : quoteGo (f + 1) l = quoteR (Lib.decodeL l).1 ++ quoteGo f (l.drop (Lib.decodeL l).2) := by rw [quoteGo, if_neg hne]
      rw [hq, bareGo_rune (decodeL_valid l), bareGo_quote f _ _ (by rw [List.length_drop]; omega) hv, henc, List.append_assoc, List.take_append_drop]
/-- What a quoted text says, however it is written. -/
def bareD (l : List UInt8) : Option (List UInt8) :=
  if l.length < 2 ∨ l.head? ≠ some 34 ∨ l[l.length - 1]? ≠ some 34 then none else bareGo ((l.drop 1).take (l.length - 2)) []
theorem bareD_quote (l : List UInt8) (hv : Lib.validD l = true) : bareD (quoteL l) = some l := by
  unfold bareD quoteL
  have hl : (34 :: (quoteGo l.length l ++ [34]) : List UInt8)[(34 :: (quoteGo l.length l ++ [34]) : List UInt8).length - 1]? = some 34 := by
    show ((34 :: quoteGo l.length l) ++ [34])[_]? = _
    rw [List.getElem?_append_right (by simp)]
    simp
  rw [if_neg (by rw [hl]; simp)]
  have e : (((34 :: (quoteGo l.length l ++ [34])) : List UInt8).drop 1).take ((34 :: (quoteGo l.length l ++ [34]) : List UInt8).length - 2) = quoteGo l.length l := by simp
  rw [e, bareGo_quote _ l [] (Nat.le_refl _) hv]
  rfl
theorem byL_len (r : Nat) : (byL r).length ≤ 4 := by
  unfold byL
  repeat' split
  all_goals simp

end Go.Proofs.YtnjdepojmnniaaaGreatDoor
