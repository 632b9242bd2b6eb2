/- Formulas as tokens: a token taken out of its text, places: plain. -/
import Derived.Test.YtdpbjdkkaekebaaDoorLxE
namespace Go.Proofs.YtdpbjdkkaekebaaDoor
open Go

/-- What may stand behind a token, that it be the same one. -/
structure Fits (l : List UInt8) (k : Nat) (x : List UInt8) : Prop where
  num : clsL l = 2 → x = [] ∨ clsL x ≠ 2
  name : clsL l = 1 → x = [] ∨ (clsL x ≠ 1 ∧ clsL x ≠ 2)
  sign : x.head? = some 61 → (l.drop k).head? = some 61
theorem fits_space {l x : List UInt8} {k : Nat} (h : clsL x = 3) : Fits l k x :=
  ⟨fun _ => .inr (by omega), fun _ => .inr ⟨by omega, by omega⟩, fun h61 => by
    rcases x with _ | ⟨c, t⟩
    · cases h61
    · have hc : c = 61 := by simpa using h61
      subst hc
      unfold clsL at h
      rw [decode_byte 61 t (by decide)] at h
      exact absurd h (by decide)⟩
theorem head_dec {l : List UInt8} {c : UInt8} (h : l.head? = some c) (hc : c.toNat < 128) : (Lib.decodeL l).1 = c.toNat := by
  rcases l with _ | ⟨b, t⟩
  · cases h
  · have hb : b = c := by simpa using h
    subst hb
    rw [decode_byte b t hc]
theorem dec_head {l : List UInt8} (hl : l ≠ []) {c : Nat} (hc : c < 128) (h : (Lib.decodeL l).1 = c) : ∃ t, l = UInt8.ofNat c :: t := by
  have hb : ¬ badP l := fun hb => by have := hb.1; omega
  have he := Lib.encode_decode l hl hb
  rw [h, enc1 c hc] at he
  rcases l with _ | ⟨b, t⟩
  · exact absurd rfl hl
  · have hw : 1 ≤ (Lib.decodeL (b :: t)).2 := Lib.decodeL_width _
    obtain ⟨m, hm⟩ : ∃ m, (Lib.decodeL (b :: t)).2 = m + 1 := ⟨(Lib.decodeL (b :: t)).2 - 1, by omega⟩
    rw [hm, List.take_succ_cons] at he
    injection he with he _
    exact ⟨t, by rw [he]⟩
theorem one_swap {l : List UInt8} {t : TokD} {k : Nat} (hl : l ≠ []) (h : oneD l = some (t, k)) (h3 : clsL l ≠ 3) {x : List UInt8} (hf : Fits l k x) : oneD (l.take k ++ x) = some (t, k) ∧ clsL (l.take k ++ x) = clsL l := by
  have hk := oneD_pos hl h
  have hw := wid_pos l
  have hwl := wid_le hl
  by_cases c2 : clsL l = 2
  · have hnb : ¬ badP l := not_bad (by omega)
    unfold oneD at h
    rw [if_pos c2] at h
    split at h
    · rename_i hv
      injection h with h
      injection h with h1 h2
      have hr := runL_in (a := 2) (b := 2) hl (.inl c2)
      have hrl := runL_le 2 2 _ l (Nat.le_refl _)
      have hcl : clsL (l.take k ++ x) = 2 := by
        rw [take_take_app (n := wid l) (by omega) (by omega), cls_swap hl hnb]; exact c2
      have hrun : runL 2 2 (l.take k ++ x) = k := by
        rw [← h2]
        exact run_swap 2 2 (by decide) (by decide) _ l x (Nat.le_refl _) ((hf.num c2).imp id (fun h => by simpa using h))
      refine ⟨?_, hcl.trans c2.symm⟩
      unfold oneD
      rw [if_pos hcl, hrun, List.take_left' (by rw [List.length_take]; omega)]
      rw [h2] at hv h1
      rw [if_pos hv, h1]
    · cases h
  · by_cases c1 : clsL l = 1
    · have hnb : ¬ badP l := not_bad (by omega)
      unfold oneD at h
      rw [if_neg c2, if_pos c1] at h
      split at h
      · rename_i hv
        injection h with h
        injection h with h1 h2
        have hr := runL_in (a := 1) (b := 2) hl (.inl c1)
        have hrl := runL_le 1 2 _ l (Nat.le_refl _)
        have hcl : clsL (l.take k ++ x) = 1 := by
          rw [take_take_app (n := wid l) (by omega) (by omega), cls_swap hl hnb]; exact c1
        have hrun : runL 1 2 (l.take k ++ x) = k := by
          rw [← h2]
          refine run_swap 1 2 (by decide) (by decide) _ l x (Nat.le_refl _) ((hf.name c1).imp id (fun h => ?_))
          rintro (h' | h')
          · exact h.1 h'
          · exact h.2 h'
        refine ⟨?_, hcl.trans c1.symm⟩
        unfold oneD
        rw [if_neg (by omega), if_pos hcl, hrun, List.take_left' (by rw [List.length_take]; omega)]
        rw [h2] at hv h1
        rw [if_pos hv, h1]
      · cases h
    · unfold oneD at h
      rw [if_neg c2, if_neg c1] at h
      split at h
      · rename_i h34
        rcases hu : unqL l with _ | ⟨u, q⟩
        · rw [hu] at h; cases h
        · rw [hu] at h
          dsimp only at h
          split at h
          · rename_i hv
            injection h with h
            injection h with h1 h2
            subst h2
            have hd := head_dec h34 (by decide)
            have hcl : clsL (l.take q ++ x) = clsL l := by
              rw [take_take_app (n := wid l) (by have := (dec34 hl (by decide) hd).1; omega) (by omega), cls_swap hl (dec34 hl (by decide) hd).2]
            refine ⟨?_, hcl⟩
            unfold oneD
            have hh : (l.take q ++ x).head? = some 34 := by
              rcases l with _ | ⟨b, r⟩
              · cases h34
              · obtain ⟨m, hm⟩ : ∃ m, q = m + 1 := ⟨q - 1, by omega⟩
                rw [hm, List.take_succ_cons, List.cons_append]
                exact h34
            rw [hcl, if_neg c2, if_neg c1, if_pos hh, unqL_swap hu]
            dsimp only
            rw [if_pos hv, h1]
          · cases h
      · rename_i h34
        split at h
        · cases h
        · rename_i hs0
          injection h with h
          injection h with h1 h2
          rcases l with _ | ⟨c, r⟩
          · exact absurd rfl hl
          · have hcs : c.toNat < 128 := by
              rw [signL_cons] at hs0
              by_cases h61 : (c = 60 ∨ c = 62 ∨ c = 33) ∧ r.head? = some 61
              · rcases h61.1 with rfl | rfl | rfl <;> decide
              · rw [if_neg h61] at hs0
                by_cases hm : signs.contains c = true
                · have : ∀ c ∈ signs, c.toNat < 128 := by decide
                  exact this c (by simpa using hm)
                · rw [if_neg hm] at hs0; exact absurd rfl hs0
            have hd : (Lib.decodeL (c :: r)).1 = c.toNat := by rw [decode_byte c r hcs]
            obtain ⟨hw1, hnb⟩ := dec34 hl hcs hd
            have hcl : clsL ((c :: r).take k ++ x) = clsL (c :: r) := by
              rw [take_take_app (n := wid (c :: r)) (by omega) (by omega), cls_swap hl hnb]
            obtain ⟨m, hm⟩ : ∃ m, k = m + 1 := ⟨k - 1, by omega⟩
            have hsg : signL ((c :: r).take k ++ x) = k := by
              rw [hm, List.take_succ_cons, List.cons_append, signL_cons]
              rw [signL_cons] at h2
              by_cases h61 : (c = 60 ∨ c = 62 ∨ c = 33) ∧ r.head? = some 61
              · rw [if_pos h61] at h2
                obtain rfl : m = 1 := by omega
                rcases r with _ | ⟨d, r⟩
                · simp at h61
                · rw [if_pos ⟨h61.1, by simpa using h61.2⟩]
              · rw [if_neg h61] at h2
                by_cases hcm : signs.contains c = true
                · rw [if_pos hcm] at h2
                  obtain rfl : m = 0 := by omega
                  have hx : ¬ ((c = 60 ∨ c = 62 ∨ c = 33) ∧ (r.take 0 ++ x).head? = some 61) := by
                    rintro ⟨hc, hh⟩
                    rw [List.take_zero, List.nil_append] at hh
                    have := hf.sign hh
                    rw [hm] at this
                    exact h61 ⟨hc, by simpa using this⟩
                  rw [if_neg hx, if_pos hcm]
                · rw [if_neg hcm] at h2; omega
            have hh : ((c :: r).take k ++ x).head? ≠ some 34 := by
              rw [hm, List.take_succ_cons, List.cons_append]
              exact h34
            refine ⟨?_, hcl⟩
            unfold oneD
            rw [hcl, if_neg c2, if_neg c1, if_neg hh, hsg, if_neg (by omega), List.take_left' (by rw [List.length_take]; omega), ← h1, h2]

end Go.Proofs.YtdpbjdkkaekebaaDoor
