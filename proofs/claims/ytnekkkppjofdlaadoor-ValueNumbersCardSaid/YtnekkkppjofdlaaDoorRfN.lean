/- The document's reading of a value; the program's: whatever the text. -/
import Derived.Test.YtnekkkppjofdlaaDoorRfM
namespace Go.Proofs.YtnekkkppjofdlaaDoor
open Go Go.RowKit

theorem numD_head {l : List UInt8} {n : Int} (h : numD l = (n, true)) : ∀ c, l.head? = some c → c.toNat = 45 ∨ (48 ≤ c.toNat ∧ c.toNat ≤ 57) := by
  intro c hc
  unfold numD at h
  split at h
  · cases h
  · split at h
    · rename_i h45
      rw [hc] at h45
      injection h45 with h45
      subst h45
      exact .inl rfl
    · rcases l with _ | ⟨b, t⟩
      · cases hc
      · have hb : b = c := by simpa using hc
        subst hb
        by_cases hd : b.toNat < 48 ∨ 57 < b.toNat ∨ 1152921504606846976 < 0
        · rw [numGo_bad hd] at h; cases h
        · exact .inr (by omega)
theorem bareD_head {l : List UInt8} (h : l.head? ≠ some 34) : bareD l = none := by
  unfold bareD
  rw [if_pos (.inr (.inl h))]
theorem toNat_ne {c d : UInt8} (h : c ≠ d) : ((c.toNat : Int) == d.toNat) = false := by
  rw [beq_eq_false_iff_ne]
  intro e
  exact h (UInt8.toNat_inj.1 (by omega))
theorem head_get {s : ByteArray} (h : 0 < s.size) : s.data.toList.head? = some (s[0]'h) := by
  have := byte_drop s 0 h
  rw [List.drop_zero] at this
  rw [this]; rfl
theorem hash_no {s : ByteArray} (h : s.data.toList.head? ≠ some 35) : ((s.size : Int) == 2) = false ∨ (((s.size : Int) == 2) = true ∧ ∃ (h : 0 < s.size), (((s[0]'h).toNat : Int) == 35) = false) := by
  by_cases h2 : s.size = 2
  · refine .inr ⟨by simp; omega, by omega, ?_⟩
    rw [head_get (by omega)] at h
    exact toNat_ne (d := 35) (fun e => h (by rw [e]))
  · exact .inl (by rw [beq_eq_false_iff_ne]; omega)
theorem check_bad {n : Int} (h : checkD ⟨4, n, ⟨#[]⟩⟩ = true) : 1 ≤ n ∧ n ≤ 4 := by
  simp [checkD] at h
  exact h.1
theorem itoa_bad {n : Int} (h0 : 1 ≤ n) (h1 : n ≤ 4) : Lib.itoa n = [UInt8.ofNat (48 + n.toNat)] := by
  unfold Lib.itoa
  rw [if_neg (by omega), dec_small _ (by omega)]

theorem r5Read_any (s : ByteArray) (w : World) (hT : Tabs w) (hs : s.size ≤ 100000) : Calls Tryd.prog 42 #[.string s] w (ReadPost s w) := by
  have hl : s.data.toList = s.toList := (ByteArray.toList_eq s).symm
  have hsz : s.data.toList.length = s.size := Array.length_toList
  have key : ∀ (D : ValD), checkD D = true → showL D = s.data.toList → ∀ u, checkD u = true → I64 u.n → showL u = s.data.toList → u = D := fun D h1 h2 u hc _ h => showL_inj hc h1 (h.trans h2.symm)
  rcases t1 : (s.toList == [45]) with _ | _
  · rcases t2 : (s.toList == [116, 114, 117, 101]) with _ | _
    · rcases t3 : (s.toList == [102, 97, 108, 115, 101]) with _ | _
      · have HC : ∀ u, checkD u = true → showL u = s.data.toList → (u = ⟨1, u.n, ⟨#[]⟩⟩ ∧ s.data.toList = Lib.itoa u.n) ∨ (u = ⟨3, 0, u.s⟩ ∧ s.data.toList = quoteL u.s.data.toList ∧ Lib.validD u.s.data.toList = true) ∨ (u = ⟨4, u.n, ⟨#[]⟩⟩ ∧ s.data.toList = 35 :: Lib.itoa u.n) := by
          intro u hc h
          rcases shows_cases hc h with A | A | A | A | A
          · rw [hl] at A; rw [A] at t1; exact absurd t1 (by decide)
          · exact .inl A
          · rw [hl] at A
            rcases A with A | A
            · rw [A] at t2; exact absurd t2 (by decide)
            · rw [A] at t3; exact absurd t3 (by decide)
          · exact .inr (.inl A)
          · exact .inr (.inr A)
        have h64 := numD_64 s.data.toList
        rcases hnum : numD s.data.toList with ⟨n, _ | _⟩
        · rcases hbare : bareD s.data.toList with _ | t
          · by_cases h2 : s.size = 2 ∧ s.data.toList.head? = some 35
            · obtain ⟨h2, h35⟩ := h2
              have hp0 : 0 < s.size := by omega
              have hp1 : 1 < s.size := by omega
              have h0 : s[0]'hp0 = 35 := by
                rw [head_get hp0] at h35
                exact Option.some.inj h35
              have e0 := byte_drop s 0 hp0
              have e1 := byte_drop s 1 hp1
              have e2 : s.data.toList.drop (1 + 1) = [] := List.drop_of_length_le (by rw [hsz]; omega)
              rw [List.drop_zero, h0] at e0
              rw [e2] at e1
              refine r5Read_hash s w hT hs t1 t2 t3 h2 h0 (s[1]'hp1) rfl n hnum hbare (fun u hc hi h => ?_)
              rcases HC u hc h with A | A | A
              · rw [A.2, numD_itoa u.n hi.1 hi.2] at hnum; cases hnum
              · rw [A.2.1, bareD_quote _ A.2.2] at hbare; cases hbare
              · have hb : checkD ⟨4, u.n, ⟨#[]⟩⟩ = true := by rw [← A.1]; exact hc
                obtain ⟨b1, b2⟩ := check_bad hb
                have h3 := A.2
                rw [e0, e1, itoa_bad b1 b2] at h3
                injection h3 with _ h3
                injection h3 with h3 _
                rw [A.1, h3]
                congr 1
                rw [ofNat_toNat _ (by omega)]
                omega
            · refine r5Read_none s w hT hs t1 t2 t3 ?_ n hnum hbare (fun u hc hi h => ?_)
              · by_cases h35 : s.data.toList.head? = some 35
                · exact .inl (by rw [beq_eq_false_iff_ne]; intro e; exact h2 ⟨by omega, h35⟩)
                · exact hash_no h35
              · rcases HC u hc h with A | A | A
                · rw [A.2, numD_itoa u.n hi.1 hi.2] at hnum; cases hnum
                · rw [A.2.1, bareD_quote _ A.2.2] at hbare; cases hbare
                · have hb : checkD ⟨4, u.n, ⟨#[]⟩⟩ = true := by rw [← A.1]; exact hc
                  obtain ⟨b1, b2⟩ := check_bad hb
                  have h3 := A.2
                  rw [itoa_bad b1 b2] at h3
                  exact h2 ⟨by rw [← hsz, h3]; rfl, by rw [h3]; rfl⟩
          · have h34 : s.data.toList.head? = some 34 := Classical.byContradiction fun hne => by rw [bareD_head hne] at hbare; cases hbare
            refine r5Read_bare s w hT hs t1 t2 t3 (hash_no (by rw [h34]; decide)) n t hnum hbare (fun u hc hi h => ?_)
            rcases HC u hc h with A | A | A
            · rw [A.2, numD_itoa u.n hi.1 hi.2] at hnum; cases hnum
            · rw [A.2.1, bareD_quote _ A.2.2] at hbare
              injection hbare with hbare
              rw [A.1, ← hbare]
              rfl
            · rw [A.2] at h34; exact absurd h34 (by simp)
        · have hh := numD_head hnum
          rw [hnum] at h64
          have n34 : s.data.toList.head? ≠ some 34 := fun h => by have := hh 34 h; revert this; decide
          have n35 : s.data.toList.head? ≠ some 35 := fun h => by have := hh 35 h; revert this; decide
          refine r5Read_num s w hT hs t1 t2 t3 (hash_no n35) n h64 hnum (bareD_head n34) (fun u hc hi h => ?_)
          rcases HC u hc h with A | A | A
          · rw [A.2, numD_itoa u.n hi.1 hi.2] at hnum
            injection hnum with hnum _
            rw [A.1, hnum]
          · exact absurd (by rw [A.2.1]; rfl) n34
          · exact absurd (by rw [A.2]; rfl) n35
      · have e : s.data.toList = [102, 97, 108, 115, 101] := by rw [hl]; exact beq_iff_eq.1 t3
        refine r5Read_nay s w hT hs t1 t2 t3 ?_ ?_ ?_ ?_
        · have := hsz; rw [e] at this; rw [beq_eq_false_iff_ne]; simp at this; omega
        · rw [e]; decide
        · exact bareD_head (by rw [e]; decide)
        · exact key _ (by simp [checkD, emptyB_nil]) (by rw [e]; rfl)
    · have e : s.data.toList = [116, 114, 117, 101] := by rw [hl]; exact beq_iff_eq.1 t2
      refine r5Read_yes s w hT hs t1 t2 (by rw [← hl, e]; decide) ?_ ?_ ?_ ?_
      · have := hsz; rw [e] at this; rw [beq_eq_false_iff_ne]; simp at this; omega
      · rw [e]; decide
      · exact bareD_head (by rw [e]; decide)
      · exact key _ (by simp [checkD, emptyB_nil]) (by rw [e]; rfl)
  · have e : s.data.toList = [45] := by rw [hl]; exact beq_iff_eq.1 t1
    refine r5Read_dash s w hT hs t1 (by rw [← hl, e]; decide) (by rw [← hl, e]; decide) ?_ ?_ ?_ ?_
    · have := hsz; rw [e] at this; rw [beq_eq_false_iff_ne]; simp at this; omega
    · rw [e]; decide
    · exact bareD_head (by rw [e]; decide)
    · exact key _ (by simp [checkD, emptyB_nil]) (by rw [e]; rfl)
theorem vRead_any (s : ByteArray) (w : World) (hT : Tabs w) (hE : Errs w) (hs : s.size ≤ 100000) : Calls Tryd.prog 40 #[.string s] w (ReadPost s w) := by
  have hl : s.data.toList = s.toList := (ByteArray.toList_eq s).symm
  have wd : ∀ (v : ValD) (l : List UInt8), s.toList = l → s = str l := fun v l h => ByteArray.ext (by rw [← hl] at h; exact Array.toList_inj.1 h)
  have yes : ∀ (v : ValD), checkD v = true → showL v = s.data.toList → I64 v.n → (Calls Tryd.prog 40 #[.string s] w fun e w' => e = .returned (.tuple #[valV v, .bool true]) ∧ Keeps [] w w') → Calls Tryd.prog 40 #[.string s] w (ReadPost s w) := fun v h1 h2 h3 hh => hh.mono fun e w' h => ⟨v, true, h.1, readsAs_yes h1 h2 h3, h.2⟩
  rcases t1 : (s.toList == [45]) with _ | _
  · rcases t2 : (s.toList == [116, 114, 117, 101]) with _ | _
    · rcases t3 : (s.toList == [102, 97, 108, 115, 101]) with _ | _
      · exact vRead_rest s w hT hE hs t1 t2 t3
      · have e := beq_iff_eq.1 t3
        exact yes ⟨2, 0, ⟨#[]⟩⟩ (by simp [checkD, emptyB_nil]) (by rw [hl, e]; rfl) ⟨by simp, by simp⟩ (vRead_word s _ (.inr (.inr ⟨wd val0 _ e, rfl⟩)) w hT)
    · have e := beq_iff_eq.1 t2
      exact yes ⟨2, 1, ⟨#[]⟩⟩ (by simp [checkD, emptyB_nil]) (by rw [hl, e]; rfl) ⟨by simp, by simp⟩ (vRead_word s _ (.inr (.inl ⟨wd val0 _ e, rfl⟩)) w hT)
  · have e := beq_iff_eq.1 t1
    exact yes ⟨0, 0, ⟨#[]⟩⟩ (by simp [checkD, emptyB_nil]) (by rw [hl, e]; rfl) ⟨by simp, by simp⟩ (vRead_word s _ (.inl ⟨wd val0 _ e, rfl⟩) w hT)

end Go.Proofs.YtnekkkppjofdlaaDoor
