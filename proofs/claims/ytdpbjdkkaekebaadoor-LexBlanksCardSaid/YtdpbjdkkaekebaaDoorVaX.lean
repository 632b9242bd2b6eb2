/- A quoted text read again; shown values are unlike: plain. -/
import Derived.Test.YtdpbjdkkaekebaaDoorVaU
import Derived.Test.YtdpbjdkkaekebaaDoorVaH
import Derived.Lib.ValidLaws
namespace Go.Proofs.YtdpbjdkkaekebaaDoor
open Go

def hexV (b : UInt8) : Option Nat := if 48 ≤ b.toNat ∧ b.toNat ≤ 57 then some (b.toNat - 48) else if 97 ≤ b.toNat ∧ b.toNat ≤ 102 then some (b.toNat - 87) else none
/-- The rune behind a sign, and the bytes it takes; (0, 0): none. -/
def escL : List UInt8 → Nat × Nat
  | _ :: b :: t =>
    if b.toNat = 34 ∨ b.toNat = 92 then (b.toNat, 2) else if b.toNat = 117 then
      match t with
      | h1 :: h2 :: h3 :: h4 :: _ =>
        match hexV h1, hexV h2, hexV h3, hexV h4 with
        | some a, some b, some c, some d => if 55296 ≤ ((a * 16 + b) * 16 + c) * 16 + d ∧ ((a * 16 + b) * 16 + c) * 16 + d ≤ 57343 then (0, 0) else (((a * 16 + b) * 16 + c) * 16 + d, 6)
        | _, _, _, _ => (0, 0)
      | _ => (0, 0)
    else (0, 0)
  | _ => (0, 0)
/-- What stands between the first quote and the next, and the bytes so far. -/
def unqGo : Nat → List UInt8 → List UInt8 → Nat → Option (List UInt8 × Nat)
  | 0, _, _, _ => none
  | f + 1, l, acc, p =>
    if l = [] then none else if (Lib.decodeL l).1 = 34 then some (acc, p + 1)
    else if (Lib.decodeL l).1 = 92 then (if (escL l).2 = 0 then none else unqGo f (l.drop (escL l).2) (acc ++ Lib.encodeRune ((escL l).1 : Int)) (p + (escL l).2))
    else if ((Lib.decodeL l).1 = 65533 ∧ (Lib.decodeL l).2 = 1) ∨ ctlR (Lib.decodeL l).1 = true then none
    else unqGo f (l.drop (Lib.decodeL l).2) (acc ++ Lib.encodeRune ((Lib.decodeL l).1 : Int)) (p + (Lib.decodeL l).2)
def unqL (l : List UInt8) : Option (List UInt8 × Nat) :=
  match l with
  | [] => none
  | b :: t => if b.toNat = 34 then unqGo (t.length + 1) t [] 1 else none

theorem unqGo_succ (f : Nat) (l acc : List UInt8) (p : Nat) : unqGo (f + 1) l acc p =
    if l = [] then none else if (Lib.decodeL l).1 = 34 then some (acc, p + 1)
    else if (Lib.decodeL l).1 = 92 then (if (escL l).2 = 0 then none else unqGo f (l.drop (escL l).2) (acc ++ Lib.encodeRune ((escL l).1 : Int)) (p + (escL l).2))
    else if ((Lib.decodeL l).1 = 65533 ∧ (Lib.decodeL l).2 = 1) ∨ ctlR (Lib.decodeL l).1 = true then none
    else unqGo f (l.drop (Lib.decodeL l).2) (acc ++ Lib.encodeRune ((Lib.decodeL l).1 : Int)) (p + (Lib.decodeL l).2) := rfl
theorem decode_byte (b : UInt8) (t : List UInt8) (h : b.toNat < 128) : Lib.decodeL (b :: t) = (b.toNat, 1) := by
  rw [Lib.decodeL_N]
  simp only [List.getD_cons_zero]
  rw [Lib.decodeN_ascii _ _ _ _ _ h]
theorem hexV_fin : ∀ n : Fin 16, hexV (hexD n.val) = some n.val := by decide +kernel
theorem hexV_hexD (n : Nat) (h : n < 16) : hexV (hexD n) = some n := hexV_fin ⟨n, h⟩
theorem enc_one (r : Nat) (h : r < 128) : Lib.encodeRune (r : Int) = [UInt8.ofNat r] := enc1 r h

theorem enc_len (r : Int) : (Lib.encodeRune r).length = (Lib.encodeRuneZ r).length := by simp [Lib.encodeRune]

theorem unq_rune (f : Nat) (r : Nat) (hv : r < 55296 ∨ (57344 ≤ r ∧ r ≤ 1114111)) (t acc : List UInt8) (p : Nat) :
    unqGo (f + 1) (quoteR r ++ t) acc p = unqGo f t (acc ++ Lib.encodeRune (r : Int)) (p + (quoteR r).length) := by
  by_cases hs : r = 34 ∨ r = 92
  · rw [quoteR_sign hs, enc_one r (by omega)]
    have hb : (UInt8.ofNat r).toNat = r := ofNat_toNat r (by omega)
    have hd : Lib.decodeL (92 :: UInt8.ofNat r :: t) = (92, 1) := decode_byte 92 _ (by decide)
    have he : escL (92 :: UInt8.ofNat r :: t) = (r, 2) := by
      show (if (UInt8.ofNat r).toNat = 34 ∨ (UInt8.ofNat r).toNat = 92 then ((UInt8.ofNat r).toNat, 2) else _) = _
      rw [hb, if_pos hs]
    show unqGo (f + 1) (92 :: UInt8.ofNat r :: t) acc p = _
    rw [unqGo_succ]
    rw [if_neg (by simp), hd, if_neg (by simp), if_pos rfl, he, if_neg (by simp)]
    simp only [enc_one r (by omega : r < 128)]
    rfl
  · by_cases hc : ctlR r = true
    · have hr : r < 256 := by simp [ctlR] at hc; omega
      rw [quoteR_ctl hc]
      have hd : Lib.decodeL (92 :: 117 :: 48 :: 48 :: hexD (r / 16) :: hexD (r % 16) :: t) = (92, 1) := decode_byte 92 _ (by decide)
      have he : escL (92 :: 117 :: 48 :: 48 :: hexD (r / 16) :: hexD (r % 16) :: t) = (r, 6) := by
        have e0 : hexV 48 = some 0 := by decide
        show (if (117 : UInt8).toNat = 34 ∨ (117 : UInt8).toNat = 92 then ((117 : UInt8).toNat, 2) else if (117 : UInt8).toNat = 117 then (match hexV 48, hexV 48, hexV (hexD (r / 16)), hexV (hexD (r % 16)) with
          | some a, some b, some c, some d => if 55296 ≤ ((a * 16 + b) * 16 + c) * 16 + d ∧ ((a * 16 + b) * 16 + c) * 16 + d ≤ 57343 then (0, 0) else (((a * 16 + b) * 16 + c) * 16 + d, 6)
          | _, _, _, _ => (0, 0)) else (0, 0)) = _
        rw [if_neg (by decide), if_pos (by decide)]
        simp only [e0, hexV_hexD (r / 16) (by omega), hexV_hexD (r % 16) (by omega)]
        rw [if_neg (by omega)]
        exact Prod.ext (by show ((0 * 16 + 0) * 16 + r / 16) * 16 + r % 16 = r; omega) rfl
      show unqGo (f + 1) (92 :: 117 :: 48 :: 48 :: hexD (r / 16) :: hexD (r % 16) :: t) acc p = _
      rw [unqGo_succ]
      rw [if_neg (by simp), hd, if_neg (by simp), if_pos rfl, he, if_neg (by simp)]
      rfl
    · have hc' : ctlR r = false := by simpa using hc
      rw [quoteR_any hs hc']
      have hd := decode_encode r hv t
      have hne : Lib.encodeRune (r : Int) ++ t ≠ [] := by
        intro h
        have h1 := Lib.encodeRuneZ_length (r : Int)
        have h2 : (Lib.encodeRune (r : Int)).length = 0 := by rw [(List.append_eq_nil_iff.1 h).1]; rfl
        rw [enc_len] at h2
        omega
      have h3 : ¬ (r = 65533 ∧ (Lib.encodeRune (r : Int)).length = 1) := by
        rintro ⟨rfl, h⟩
        rw [enc3 65533 (by omega)] at h
        simp at h
      show unqGo (f + 1) (Lib.encodeRune (r : Int) ++ t) acc p = _
      rw [unqGo_succ]
      rw [if_neg hne, hd]
      rw [if_neg (by show ¬ r = 34; omega), if_neg (by show ¬ r = 92; omega), if_neg (fun h => h.elim h3 hc)]
      show unqGo f ((Lib.encodeRune (r : Int) ++ t).drop (Lib.encodeRune (r : Int)).length) _ _ = _
      rw [List.drop_left']
      rfl

/-- A text that may be, quoted, is read again. -/
theorem unq_quoteGo : ∀ (f g : Nat) (l t acc : List UInt8) (p : Nat), l.length ≤ f → l.length < g → Lib.validD l = true →
    unqGo g (quoteGo f l ++ 34 :: t) acc p = some (acc ++ l, p + (quoteGo f l).length + 1)
  | f, 0, l, t, acc, p, _, hg, _ => by omega
  | 0, g + 1, l, t, acc, p, hf, _, _ => by
    obtain rfl : l = [] := List.eq_nil_of_length_eq_zero (by omega)
    have hd : Lib.decodeL (34 :: t) = (34, 1) := decode_byte 34 _ (by decide)
    show unqGo (g + 1) (34 :: t) acc p = _
    rw [unqGo_succ]
    rw [if_neg (by simp), hd, if_pos rfl]
    simp [quoteGo]
  | f + 1, g + 1, l, t, acc, p, hf, hg, hv => by
    by_cases hne : l = []
    · subst hne
      have hd : Lib.decodeL (34 :: t) = (34, 1) := decode_byte 34 _ (by decide)
      rw [quoteGo_nil]
      show unqGo (g + 1) (34 :: t) acc p = _
      rw [unqGo_succ]
      rw [if_neg (by simp), hd, if_pos rfl]
      simp
    · have hw := Lib.decodeL_width l
      have hl : 0 < l.length := List.length_pos_iff.2 hne
      rw [Lib.validD_step l hne] at hv
      have hb : ¬ ((Lib.decodeL l).1 = 65533 ∧ (Lib.decodeL l).2 = 1) := by
        intro h; rw [if_pos h] at hv; cases hv
      rw [if_neg hb] at hv
      have henc := Lib.encode_decode l hne hb
      have hq : quoteGo (f + 1) l = quoteR (Lib.decodeL l).1 ++ quoteGo f (l.drop (Lib.decodeL l).2) := by rw [quoteGo, if_neg hne]
      rw [hq, List.append_assoc, unq_rune g _ (decodeL_valid l), unq_quoteGo f g (l.drop (Lib.decodeL l).2) t _ _ (by rw [List.length_drop]; omega) (by rw [List.length_drop]; omega) hv, henc]
      congr 1
      refine Prod.ext ?_ ?_
      · show acc ++ l.take _ ++ l.drop _ = acc ++ l
        rw [List.append_assoc, List.take_append_drop]
      · show p + (quoteR _).length + (quoteGo f _).length + 1 = p + (quoteR _ ++ quoteGo f _).length + 1
        rw [List.length_append]; omega
theorem unq_len (f : Nat) : ∀ (l : List UInt8), l.length ≤ f → Lib.validD l = true → l.length ≤ (quoteGo f l).length := by
  induction f with
  | zero => intro l h _; omega
  | succ f ih =>
    intro l h hv
    unfold quoteGo
    by_cases hne : l = []
    · simp [hne]
    · have hw := Lib.decodeL_width l
      have hl : 0 < l.length := List.length_pos_iff.2 hne
      rw [Lib.validD_step l hne] at hv
      have hb : ¬ ((Lib.decodeL l).1 = 65533 ∧ (Lib.decodeL l).2 = 1) := by
        intro h; rw [if_pos h] at hv; cases hv
      rw [if_neg hb] at hv
      have henc := congrArg List.length (Lib.encode_decode l hne hb)
      have hle := Lib.decodeL_le l hne
      rw [List.length_take, Nat.min_eq_left hle] at henc
      have h4 := Lib.encodeRuneZ_length ((Lib.decodeL l).1 : Int)
      rw [← enc_len] at h4
      have hq : (Lib.decodeL l).2 ≤ (quoteR (Lib.decodeL l).1).length := by
        unfold quoteR
        repeat' split
        · simp; omega
        · simp; omega
        · omega
      rw [if_neg hne, List.length_append]
      have h1 := ih (l.drop (Lib.decodeL l).2) (by rw [List.length_drop]; omega) hv
      rw [List.length_drop] at h1
      omega
theorem unq_quote (l t : List UInt8) (hv : Lib.validD l = true) : unqL (quoteL l ++ t) = some (l, (quoteL l).length) := by
  have hl := unq_len l.length l (Nat.le_refl _) hv
  have e : quoteL l ++ t = 34 :: (quoteGo l.length l ++ 34 :: t) := by simp [quoteL]
  rw [e]
  show (if (34 : UInt8).toNat = 34 then unqGo ((quoteGo l.length l ++ 34 :: t).length + 1) (quoteGo l.length l ++ 34 :: t) [] 1 else none) = _
  rw [if_pos (by decide), unq_quoteGo l.length _ l t [] 1 (Nat.le_refl _) (by simp; omega) hv]
  simp [quoteL]
  omega
theorem quoteL_inj {l m : List UInt8} (hl : Lib.validD l = true) (hm : Lib.validD m = true) (h : quoteL l = quoteL m) : l = m := by
  have h1 := unq_quote l [] hl
  have h2 := unq_quote m [] hm
  rw [h, h2] at h1
  exact ((Prod.mk.inj (Option.some.inj h1)).1).symm

/-- What digits say. -/
def numOf (l : List UInt8) : Nat := l.foldl (fun a b => a * 10 + (b.toNat - 48)) 0
theorem numOf_snoc (l : List UInt8) (b : UInt8) : numOf (l ++ [b]) = numOf l * 10 + (b.toNat - 48) := by simp [numOf]
theorem numOf_digits (u : Nat) : numOf (Lib.decDigits u) = u := by
  induction u using Nat.strongRecOn with
  | _ u ih =>
    rw [Lib.decDigits]
    by_cases h : u < 10
    · rw [dif_pos h]
      show 0 * 10 + ((UInt8.ofNat (48 + u)).toNat - 48) = u
      rw [ofNat_toNat _ (by omega)]
      omega
    · rw [dif_neg h, numOf_snoc, ih (u / 10) (by omega), ofNat_toNat _ (by omega)]
      omega
theorem digits_inj {u v : Nat} (h : Lib.decDigits u = Lib.decDigits v) : u = v := by rw [← numOf_digits u, h, numOf_digits]
theorem digits_first {u : Nat} {b : UInt8} {t : List UInt8} (h : Lib.decDigits u = b :: t) : 48 ≤ b.toNat ∧ b.toNat ≤ 57 := digits_bd u b (by rw [h]; simp)
theorem itoa_inj {n m : Int} (h : Lib.itoa n = Lib.itoa m) : n = m := by
  unfold Lib.itoa at h
  split at h <;> split at h
  · have := digits_inj (List.cons.inj h).2; omega
  · have := digits_first h.symm; simp at this
  · have := digits_first h; simp at this
  · have := digits_inj h; omega
theorem itoa_line {n : Int} : Lib.itoa n ≠ [45] := by
  unfold Lib.itoa
  split
  · intro h; exact digits_ne _ (List.cons.inj h).2
  · intro h; have := digits_first h; simp at this
theorem itoa_first {n : Int} {b : UInt8} {t : List UInt8} (h : Lib.itoa n = b :: t) : 45 ≤ b.toNat ∧ b.toNat ≤ 57 := itoa_bd n b (by rw [h]; simp)

theorem checkD_cases {v : ValD} (h : checkD v = true) : (v.kind = 0 ∧ v.n = 0 ∧ v.s = ⟨#[]⟩) ∨ (v.kind = 1 ∧ v.s = ⟨#[]⟩) ∨ (v.kind = 2 ∧ (v.n = 0 ∨ v.n = 1) ∧ v.s = ⟨#[]⟩) ∨ (v.kind = 3 ∧ v.n = 0 ∧ Lib.validD v.s.data.toList = true) ∨ (v.kind = 4 ∧ v.s = ⟨#[]⟩) := by
  have he : emptyB v.s = true → v.s = ⟨#[]⟩ := fun h => by
    have h1 := emptyB_data h
    obtain ⟨k, n, ⟨⟨s⟩⟩⟩ := v
    simp at h1 ⊢
    exact h1
  unfold checkD at h
  repeat' split at h
  · simp at h; exact .inl ⟨by assumption, h.1, he h.2⟩
  · exact .inr (.inl ⟨by assumption, he h⟩)
  · simp at h; exact .inr (.inr (.inl ⟨by assumption, h.1, he h.2⟩))
  · simp [textOk] at h; exact .inr (.inr (.inr (.inl ⟨by assumption, h.1, h.2.2.1⟩)))
  · simp at h; exact .inr (.inr (.inr (.inr ⟨by assumption, he h.2⟩)))
  · cases h
theorem showL_of (v : ValD) : showL v = if v.kind = 1 then Lib.itoa v.n else if v.kind = 2 then (if v.n = 1 then [116, 114, 117, 101] else [102, 97, 108, 115, 101]) else if v.kind = 3 then quoteL v.s.data.toList else if v.kind = 4 then 35 :: Lib.itoa v.n else [45] := rfl
/-- Which kind a shown text is. -/
def tagL (l : List UInt8) : Int :=
  if l = [45] then 0 else match l with
    | b :: _ => if b.toNat = 34 then 3 else if b.toNat = 35 then 4 else if b.toNat = 116 ∨ b.toNat = 102 then 2 else 1
    | [] => 1
theorem tag_show {v : ValD} (hv : checkD v = true) : tagL (showL v) = v.kind := by
  obtain ⟨k, n, s⟩ := v
  have A := checkD_cases hv
  dsimp only at A
  rcases A with ⟨rfl, rfl, rfl⟩ | ⟨rfl, rfl⟩ | ⟨rfl, a1, rfl⟩ | ⟨rfl, rfl, a1⟩ | ⟨rfl, rfl⟩
  · rfl
  · rw [showL_int]
    unfold tagL
    rw [if_neg itoa_line]
    rcases h : Lib.itoa n with _ | ⟨b, t⟩
    · rfl
    · have := itoa_first h
      show (if _ then _ else _) = _
      rw [if_neg (by omega), if_neg (by omega), if_neg (by omega)]
  · rcases a1 with rfl | rfl <;> rfl
  · rw [showL_text]
    unfold tagL
    rw [if_neg (by simp [quoteL])]
    rfl
  · rw [showL_bad]
    unfold tagL
    rw [if_neg (by simp)]
    rfl
theorem showL_inj {v u : ValD} (hv : checkD v = true) (hu : checkD u = true) (h : showL v = showL u) : v = u := by
  have hk : v.kind = u.kind := by rw [← tag_show hv, h, tag_show hu]
  obtain ⟨k, n, s⟩ := v
  obtain ⟨k', n', s'⟩ := u
  have A := checkD_cases hv
  have B := checkD_cases hu
  dsimp only at A B hk
  subst hk
  rcases A with ⟨rfl, rfl, rfl⟩ | ⟨rfl, rfl⟩ | ⟨rfl, a1, rfl⟩ | ⟨rfl, rfl, a1⟩ | ⟨rfl, rfl⟩
  · rcases B with ⟨_, rfl, rfl⟩ | ⟨h, _⟩ | ⟨h, _⟩ | ⟨h, _⟩ | ⟨h, _⟩ <;> first | rfl | (exact absurd h (by decide))
  · rcases B with ⟨h', _⟩ | ⟨_, rfl⟩ | ⟨h', _⟩ | ⟨h', _⟩ | ⟨h', _⟩ <;> first | (exact absurd h' (by decide)) | skip
    rw [showL_int, showL_int] at h
    rw [itoa_inj h]
  · rcases B with ⟨h', _⟩ | ⟨h', _⟩ | ⟨_, b1, rfl⟩ | ⟨h', _⟩ | ⟨h', _⟩ <;> first | (exact absurd h' (by decide)) | skip
    rcases a1 with rfl | rfl <;> rcases b1 with rfl | rfl <;> first | rfl | (exact absurd h (by decide))
  · rcases B with ⟨h', _⟩ | ⟨h', _⟩ | ⟨h', _⟩ | ⟨_, rfl, b1⟩ | ⟨h', _⟩ <;> first | (exact absurd h' (by decide)) | skip
    rw [showL_text, showL_text] at h
    have := quoteL_inj a1 b1 h
    have e : s = s' := by
      obtain ⟨⟨l⟩⟩ := s
      obtain ⟨⟨m⟩⟩ := s'
      simp at this
      rw [this]
    rw [e]
  · rcases B with ⟨h', _⟩ | ⟨h', _⟩ | ⟨h', _⟩ | ⟨h', _⟩ | ⟨_, rfl⟩ <;> first | (exact absurd h' (by decide)) | skip
    rw [showL_bad, showL_bad] at h
    rw [itoa_inj (List.cons.inj h).2]

end Go.Proofs.YtdpbjdkkaekebaaDoor
