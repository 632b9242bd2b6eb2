/- Formulas as tokens: plain. -/
import Derived.Test.YtdpbjdkkaekebaaDoorRfK
namespace Go.Proofs.YtdpbjdkkaekebaaDoor
open Go

/-- The class of a rune. -/
def clsR (r : Nat) : Nat :=
  if r = 9 ∨ r = 10 ∨ r = 13 ∨ r = 32 ∨ r = 160 ∨ r = 12288 then 3
  else if r = 95 ∨ r = 170 ∨ r = 181 ∨ r = 186 then 1
  else if 48 ≤ r ∧ r ≤ 57 then 2
  else if (97 ≤ r ∧ r ≤ 122) ∨ (65 ≤ r ∧ r ≤ 90) ∨ (192 ≤ r ∧ r ≤ 214) ∨ (216 ≤ r ∧ r ≤ 246) ∨ (248 ≤ r ∧ r ≤ 591) ∨ (913 ≤ r ∧ r ≤ 929) ∨ (931 ≤ r ∧ r ≤ 937) ∨ (945 ≤ r ∧ r ≤ 969) ∨ (1040 ≤ r ∧ r ≤ 1103) ∨ (19968 ≤ r ∧ r ≤ 40959) then 1
  else 0
/-- The class of the piece ahead. -/
def clsL (l : List UInt8) : Nat := clsR (Lib.decodeL l).1
def wid (l : List UInt8) : Nat := (Lib.decodeL l).2
theorem wid_pos (l : List UInt8) : 1 ≤ wid l := Lib.decodeL_width l
theorem wid_le {l : List UInt8} (h : l ≠ []) : wid l ≤ l.length := Lib.decodeL_le l h
theorem drop_lt {l : List UInt8} (h : l ≠ []) {k : Nat} (hk : 1 ≤ k) : (l.drop k).length < l.length := by
  have := List.length_pos_iff.2 h
  rw [List.length_drop]
  omega
/-- The bytes of the pieces ahead whose class is a or b. -/
def runL (a b : Nat) (l : List UInt8) : Nat :=
  if h : l = [] then 0 else if clsL l = a ∨ clsL l = b then wid l + runL a b (l.drop (wid l)) else 0
termination_by l.length
decreasing_by exact drop_lt h (wid_pos l)
theorem runL_nil (a b : Nat) : runL a b [] = 0 := by rw [runL.eq_def]; simp
theorem runL_in {a b : Nat} {l : List UInt8} (h : l ≠ []) (hc : clsL l = a ∨ clsL l = b) : runL a b l = wid l + runL a b (l.drop (wid l)) := by rw [runL.eq_def, dif_neg h, if_pos hc]
theorem runL_out {a b : Nat} {l : List UInt8} (hc : ¬ (clsL l = a ∨ clsL l = b)) : runL a b l = 0 := by
  rw [runL.eq_def]
  split
  · rfl
  · first | rfl | rw [if_neg hc]
theorem runL_le (a b : Nat) : ∀ (n : Nat) (l : List UInt8), l.length ≤ n → runL a b l ≤ l.length
  | 0, l, h => by
    obtain rfl : l = [] := List.eq_nil_of_length_eq_zero (by omega)
    rw [runL_nil]; exact Nat.le_refl _
  | n + 1, l, h => by
    by_cases hl : l = []
    · rw [hl, runL_nil]; exact Nat.zero_le _
    · by_cases hc : clsL l = a ∨ clsL l = b
      · rw [runL_in hl hc]
        have h1 := wid_le hl
        have h2 := wid_pos l
        have := runL_le a b n (l.drop (wid l)) (by rw [List.length_drop]; omega)
        rw [List.length_drop] at this
        omega
      · rw [runL_out hc]; exact Nat.zero_le _
/-- The number that digits spell. -/
def decV (l : List UInt8) : Nat := l.foldl (fun u c => u * 10 + (c.toNat - 48)) 0
structure TokD where
  kind : Int
  s : List UInt8
  n : Int
  at_ : Nat
def signs : List UInt8 := [43, 45, 42, 47, 37, 40, 41, 44, 61, 60, 62, 38, 124, 33]
/-- How long the sign ahead is; 0: there is none. -/
def signL : List UInt8 → Nat
  | [] => 0
  | c :: t => if (c = 60 ∨ c = 62 ∨ c = 33) ∧ t.head? = some 61 then 2 else if signs.contains c then 1 else 0
/-- How many runes a text has. -/
def runesL (l : List UInt8) : Nat := (pieces l).length
/-- The token ahead (its place is not told), and the bytes that it takes. -/
def oneD (l : List UInt8) : Option (TokD × Nat) :=
  if clsL l = 2 then (if decV (l.take (runL 2 2 l)) ≤ 9223372036854775807 then some (⟨1, [], decV (l.take (runL 2 2 l)), 0⟩, runL 2 2 l) else none)
  else if clsL l = 1 then (if runL 1 2 l ≤ 24 then some (⟨3, l.take (runL 1 2 l), 0, 0⟩, runL 1 2 l) else none)
  else if l.head? = some 34 then match unqL l with
    | none => none
    | some (t, k) => if runesL t ≤ 100 then some (⟨2, t, 0, 0⟩, k) else none
  else if signL l = 0 then none else some (⟨4, l.take (signL l), 0, 0⟩, signL l)
/-- The tokens of a text whose first byte has the place p; or the place of the first wrong one. -/
def lexL (l : List UInt8) (p : Nat) : Except Nat (List TokD) :=
  if h : l = [] then .ok [⟨0, [], 0, p⟩] else if clsL l = 3 then lexL (l.drop (wid l)) (p + wid l) else match oneD l with
    | none => .error p
    | some (t, k) => match lexL (l.drop (k - 1 + 1)) (p + (k - 1 + 1)) with
      | .error q => .error q
      | .ok ts => .ok ({ t with at_ := p } :: ts)
termination_by l.length
decreasing_by
  · exact drop_lt h (wid_pos l)
  · exact drop_lt h (by omega)
theorem lexL_nil (p : Nat) : lexL [] p = .ok [⟨0, [], 0, p⟩] := by rw [lexL.eq_def]; simp
theorem lexL_space {l : List UInt8} (h : l ≠ []) (hc : clsL l = 3) (p : Nat) : lexL l p = lexL (l.drop (wid l)) (p + wid l) := by rw [lexL.eq_def, dif_neg h, if_pos hc]
theorem lexL_bad {l : List UInt8} (h : l ≠ []) (hc : clsL l ≠ 3) (ho : oneD l = none) (p : Nat) : lexL l p = .error p := by
  rw [lexL.eq_def, dif_neg h, if_neg hc, ho]
theorem unqGo_pos : ∀ (f : Nat) (l acc : List UInt8) (p : Nat) (t : List UInt8) (q : Nat), unqGo f l acc p = some (t, q) → p < q ∧ q ≤ p + l.length
  | 0, _, _, _, _, _, h => by cases h
  | f + 1, l, acc, p, t, q, h => by
    rw [unqGo_succ] at h
    by_cases hne : l = []
    · rw [if_pos hne] at h; cases h
    · have hw := Lib.decodeL_width l
      have hle := Lib.decodeL_le l hne
      have hpos := List.length_pos_iff.2 hne
      rw [if_neg hne] at h
      split at h
      · injection h with h
        injection h with _ h
        omega
      · split at h
        · split at h
          · cases h
          · have he := escL_le l
            have := unqGo_pos f _ _ _ t q h
            rw [List.length_drop] at this
            omega
        · split at h
          · cases h
          · have := unqGo_pos f _ _ _ t q h
            rw [List.length_drop] at this
            omega
theorem unqL_pos {l t : List UInt8} {q : Nat} (h : unqL l = some (t, q)) : 2 ≤ q ∧ q ≤ l.length := by
  rcases l with _ | ⟨b, r⟩
  · cases h
  · replace h : (if b.toNat = 34 then unqGo (r.length + 1) r [] 1 else none) = some (t, q) := h
    split at h
    · have := unqGo_pos _ _ _ _ _ _ h
      simp
      omega
    · cases h
theorem signL_cons (c : UInt8) (t : List UInt8) : signL (c :: t) = if (c = 60 ∨ c = 62 ∨ c = 33) ∧ t.head? = some 61 then 2 else if signs.contains c then 1 else 0 := rfl
theorem signL_le (l : List UInt8) : signL l ≤ l.length := by
  rcases l with _ | ⟨c, t⟩
  · simp [signL]
  · rw [signL_cons]
    split
    · rename_i h
      rcases t with _ | ⟨d, t⟩
      · simp at h
      · simp
    · split <;> simp
theorem oneD_pos {l : List UInt8} (hl : l ≠ []) {t : TokD} {k : Nat} (h : oneD l = some (t, k)) : 1 ≤ k ∧ k ≤ l.length := by
  have hr := fun a b => runL_le a b l.length l (Nat.le_refl _)
  unfold oneD at h
  split at h
  · rename_i hc
    split at h
    · injection h with h
      injection h with _ h
      have h2 := runL_in (a := 2) (b := 2) hl (.inl hc)
      have h3 := wid_pos l
      have h4 := hr 2 2
      omega
    · cases h
  · split at h
    · rename_i hc
      split at h
      · injection h with h
        injection h with _ h
        have h2 := runL_in (a := 1) (b := 2) hl (.inl hc)
        have h3 := wid_pos l
        have h4 := hr 1 2
        omega
      · cases h
    · split at h
      · rcases hu : unqL l with _ | ⟨u, q⟩
        · rw [hu] at h; cases h
        · rw [hu] at h
          dsimp only at h
          split at h
          · injection h with h
            injection h with _ h
            have := unqL_pos hu
            omega
          · cases h
      · split at h
        · cases h
        · injection h with h
          injection h with _ h
          have := signL_le l
          omega
theorem lexL_tok {l : List UInt8} (h : l ≠ []) (hc : clsL l ≠ 3) {t : TokD} {k : Nat} (ho : oneD l = some (t, k)) (p : Nat) : lexL l p = match lexL (l.drop k) (p + k) with
      | .error q => .error q
      | .ok ts => .ok ({ t with at_ := p } :: ts) := by
  have hk := (oneD_pos h ho).1
  rw [lexL.eq_def, dif_neg h, if_neg hc, ho]
  dsimp only
  rw [show k - 1 + 1 = k by omega]

end Go.Proofs.YtdpbjdkkaekebaaDoor
