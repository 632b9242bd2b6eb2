/- The document's reading of a quoted text: bare, walked. -/
import Derived.Test.YtnekkkppjofdlaaDoorRfF
namespace Go.Proofs.YtnekkkppjofdlaaDoor
open Go Go.RowKit

def bareV (o : Option (List UInt8)) : Value := .tuple #[.string (str (o.getD [])), .bool o.isSome]

theorem byL_len (r : Nat) : (byL r).length ≤ 4 := by
  unfold byL
  repeat' split
  all_goals simp
theorem hx_at (m : ByteArray) (p j : Nat) (hj : j < 4) (h : p + (j + 2) < m.size) : ((m.data.toList.drop (p + 2)).take 4).drop j = m[p + (j + 2)]'h :: ((m.data.toList.drop (p + 2)).take 4).drop (j + 1) := by
  have hl : m.data.toList.length = m.size := Array.length_toList
  rw [List.drop_eq_getElem_cons (by rw [List.length_take, List.length_drop, hl]; omega)]
  congr 1
  rw [List.getElem_take, List.getElem_drop]
  have e : p + 2 + j = p + (j + 2) := by omega
  simp only [e]
  rfl

set_option maxRecDepth 100000 in
set_option maxHeartbeats 3200000 in
theorem r5bare_in (s : ByteArray) (w : World) (hs : s.size ≤ 1000000) (h2 : 2 ≤ s.size) (h0 : s[0]'(by omega) = 34) (h1 : s[s.size - 1]'(by omega) = 34) (m : ByteArray) (hm : s.extract 1 (s.size - 1) = m) (hmz : m.size + 2 = s.size) :
    Calls Tryd.prog 69 #[.string s] w fun e w' => e = .returned (bareV (bareGo m.data.toList [])) ∧ Keeps [] w w' := by
  have h2' : (2 : Int) ≤ (s.size : Int) := by omega
  have hsI : (s.size : Int) ≤ 1000000 := by omega
  go_enter Tryd.func69, Tryd.ntmps69
  have HM := hid hm
  have HZ := hid hmz
  go_wp2_with fail
  clear hm h0 h1 h2 h2' hsI
  have hmI : (m.size : Int) ≤ 1000000 := by omega
  have HL : Hid (m.data.toList.length = m.size) := Array.length_toList
  clear hmz hs
  go_loopw [4, 5] (fun t i wr => ∃ (acc : List UInt8) (p : Nat), p ≤ m.size ∧ acc.length ≤ p ∧ t = .string (str acc) ∧ i = .int .i64 p ∧ Hid (bareGo m.data.toList [] = bareGo (m.data.toList.drop p) acc ∧ Keeps [] w wr)) (fun _ i _ => m.size - (intOf i).toNat)
  case atStart => exact ⟨[], 0, Nat.zero_le _, by simp, rfl, rfl, rfl, Keeps.refl [] w⟩
  case round =>
    obtain ⟨acc, p, hp, ha, rfl, rfl, HW⟩ := hrel
    have i0 : (0 : Int) ≤ (p : Int) := Int.natCast_nonneg _
    have hz0 : (str acc).size = acc.length := rfl
    by_cases hlt : p < m.size
    · have hlt' : (p : Int) < (m.size : Int) := by omega
      have HD := hid (byte_drop m p hlt)
      obtain ⟨c, hc⟩ : ∃ c, m[p]'hlt = c := ⟨_, rfl⟩
      rw [hc] at HD
      have c256 : c.toNat < 256 := c.toNat_lt
      rcases h92 : ((c.toNat : Int) == 92) with _ | _
      · have hcn : (c.toNat : Int) ≠ 92 := by simpa using h92
        have HN : Hid (bareGo m.data.toList [] = bareGo (m.data.toList.drop (p + 1)) (acc ++ [c])) := by
          show _ = _
          rw [HW.out.1, HD.out, bareGo_any (by omega)]
        have HX : Hid (m.extract p (p + 1) = str [c]) := by
          show _ = _
          rw [extract_str, HD.out]; rfl
        go_wp2_with fail
        refine ⟨⟨acc ++ [c], p + 1, by omega, by simp; omega, by rw [HX.out, str_cat], by simp, HN.out, HW.out.2⟩, by simp [intOf]; omega⟩
      · have hcn : (c.toNat : Int) = 92 := by simpa using h92
        have hcm : ((c.toNat : Int) != 92) = false := by rw [bne, h92]; rfl
        have h92n : c.toNat = 92 := by omega
        have H92 := hid h92n
        clear h92n
        by_cases hlt1 : p + 1 < m.size
        · have hlt1' : (p : Int) + 1 < (m.size : Int) := by omega
          have HD1 := hid (byte_drop m (p + 1) hlt1)
          obtain ⟨d, hd⟩ : ∃ d, m[p + 1]'hlt1 = d := ⟨_, rfl⟩
          rw [hd] at HD1
          have d256 : d.toNat < 256 := d.toNat_lt
          rcases h117 : ((d.toNat : Int) == 117) with _ | _
          · have hdn : (d.toNat : Int) ≠ 117 := by simpa using h117
            have hdm : ((d.toNat : Int) != 117) = true := by rw [bne, h117]; rfl
            have HN : Hid (bareGo m.data.toList [] = bareGo (m.data.toList.drop (p + 2)) (acc ++ [d])) := by
              show _ = _
              rw [HW.out.1, HD.out, HD1.out, bareGo_sign H92.out (by omega)]
            have HX : Hid (m.extract (p + 1) (p + 2) = str [d]) := by
              show _ = _
              rw [extract_str m (p + 1) 1, HD1.out]; rfl
            go_wp2_with fail
            refine ⟨⟨acc ++ [d], p + 2, by omega, by simp; omega, by rw [HX.out, str_cat], by simp; omega, HN.out, HW.out.2⟩, by simp [intOf]; omega⟩
          · have hdn : (d.toNat : Int) = 117 := by simpa using h117
            have hdm : ((d.toNat : Int) != 117) = false := by rw [bne, h117]; rfl
            have h117n : d.toNat = 117 := by omega
            by_cases hlt5 : p + 5 < m.size
            · have hlt5' : (p : Int) + 5 < (m.size : Int) := by omega
              have HN : Hid (bareGo m.data.toList [] = match hx ((m.data.toList.drop (p + 2)).take 4) 0 with
                | none => none
                | some v => bareGo (m.data.toList.drop (p + 6)) (acc ++ byL v)) := by
                show _ = _
                rw [HW.out.1, HD.out, HD1.out, bareGo_hex H92.out h117n (by rw [List.length_drop, HL.out]; omega), List.drop_drop]
                rfl
              clear h117n
              go_wp2_with fail
              have KW := hid HW.out.2
              have hac : (str acc).size + 3 ≤ 1000003 := by omega
              clear h117 hdn hdm hd h92 hcn hcm hc HD HD1
              go_loopw [6, 7] (fun v k w2 => ∃ (x j : Nat), j ≤ 4 ∧ x < 16 ^ j ∧ v = .int .i64 x ∧ k = .int .i64 ((j : Int) + 2) ∧ Hid (hx ((m.data.toList.drop (p + 2)).take 4) 0 = hx (((m.data.toList.drop (p + 2)).take 4).drop j) x ∧ Keeps [] w w2)) (fun _ k _ => 6 - (intOf k).toNat)
              case atStart => exact ⟨0, 0, by omega, by simp, rfl, rfl, rfl, KW.out⟩
              case round =>
                obtain ⟨x, j, hj, hxj, rfl, rfl, HV⟩ := hrel
                have x0 : (0 : Int) ≤ (x : Int) := Int.natCast_nonneg _
                have j0 : (0 : Int) ≤ (j : Int) := Int.natCast_nonneg _
                have hx5 : x < 65536 := Nat.lt_of_lt_of_le hxj (Nat.le_trans (Nat.pow_le_pow_right (by decide) hj) (by decide))
                have hxI : (x : Int) ≤ 65535 := by omega
                clear hx5
                by_cases hj4 : j < 4
                · have hj4' : (j : Int) + 2 < 6 := by omega
                  have hjs : p + (j + 2) < m.size := by omega
                  have hjs' : (p : Int) + ((j : Int) + 2) < (m.size : Int) := by omega
                  have HA := hid (hx_at m p j hj4 hjs)
                  obtain ⟨c, hc⟩ : ∃ c, m[p + (j + 2)]'hjs = c := ⟨_, rfl⟩
                  rw [hc] at HA
                  have c256 : c.toNat < 256 := c.toNat_lt
                  have HXJ := hid hxj
                  clear hxj
                  by_cases hd1 : 48 ≤ c.toNat ∧ c.toNat ≤ 57
                  · have b1 : (48 : Int) ≤ (c.toNat : Int) := by omega
                    have b2 : (c.toNat : Int) ≤ 57 := by omega
                    have HS : Hid (hx ((m.data.toList.drop (p + 2)).take 4) 0 = hx (((m.data.toList.drop (p + 2)).take 4).drop (j + 1)) (x * 16 + (c.toNat - 48))) := by
                      show _ = _
                      rw [HV.out.1, HA.out]
                      show (match hexV c with | none => none | some d => hx _ (x * 16 + d)) = _
                      rw [hexV, if_pos hd1]
                    clear hd1
                    go_wp2_with fail
                    go_roundw
                    case rel => exact ⟨x * 16 + (c.toNat - 48), j + 1, by omega, by have h := HXJ.out; rw [Nat.pow_succ]; omega, by go_num, by go_num, HS.out, HV.out.2⟩
                    case measure => simp [intOf]; omega
                  by_cases hd2 : 97 ≤ c.toNat ∧ c.toNat ≤ 102
                  · have b1 : (97 : Int) ≤ (c.toNat : Int) := by omega
                    have b2 : (c.toNat : Int) ≤ 102 := by omega
                    have b3 : (57 : Int) < (c.toNat : Int) := by omega
                    have b4 : (48 : Int) ≤ (c.toNat : Int) := by omega
                    have HS : Hid (hx ((m.data.toList.drop (p + 2)).take 4) 0 = hx (((m.data.toList.drop (p + 2)).take 4).drop (j + 1)) (x * 16 + (c.toNat - 87))) := by
                      show _ = _
                      rw [HV.out.1, HA.out]
                      show (match hexV c with | none => none | some d => hx _ (x * 16 + d)) = _
                      rw [hexV, if_neg hd1, if_pos hd2]
                    clear hd1 hd2
                    go_wp2_with fail
                    go_roundw
                    case rel => exact ⟨x * 16 + (c.toNat - 87), j + 1, by omega, by have h := HXJ.out; rw [Nat.pow_succ]; omega, by go_num, by go_num, HS.out, HV.out.2⟩
                    case measure => simp [intOf]; omega
                  have HE : Hid (bareGo m.data.toList [] = none) := by
                    show _ = _
                    have e : hx ((m.data.toList.drop (p + 2)).take 4) 0 = none := by
                      rw [HV.out.1, HA.out]
                      show (match hexV c with | none => none | some d => hx _ (x * 16 + d)) = _
                      rw [hexV, if_neg hd1, if_neg hd2]
                    rw [HN.out, e]
                  have hbad : (c.toNat : Int) < 48 ∨ ((48 : Int) ≤ (c.toNat : Int) ∧ (57 : Int) < (c.toNat : Int) ∧ (c.toNat : Int) < 97) ∨ ((48 : Int) ≤ (c.toNat : Int) ∧ (57 : Int) < (c.toNat : Int) ∧ (97 : Int) ≤ (c.toNat : Int) ∧ (102 : Int) < (c.toNat : Int)) := by omega
                  clear hd1 hd2
                  rcases hbad with b1 | ⟨b1, b2, b3⟩ | ⟨b1, b2, b3, b4⟩
                  all_goals
                    go_wp2_with fail
                    go_ret2
                    exact ⟨by rw [HE.out]; rfl, HV.out.2⟩
                · have hj4' : (6 : Int) ≤ (j : Int) + 2 := by omega
                  obtain rfl : j = 4 := by omega
                  have HS : Hid (bareGo m.data.toList [] = bareGo (m.data.toList.drop (p + 6)) (acc ++ byL x)) := by
                    show _ = _
                    have e : hx ((m.data.toList.drop (p + 2)).take 4) 0 = some x := by
                      rw [HV.out.1, List.drop_of_length_le (by rw [List.length_take]; omega)]
                      rfl
                    rw [HN.out, e]
                  have hbl := byL_len x
                  have hbz : (str (byL x)).size ≤ 4 := hbl
                  go_wp2_with fail
                  refine (r1Bytes_any x (by omega) _).mono ?_
                  rintro e w5 ⟨rfl, hk⟩
                  have K5 : Hid (Keeps [] w w5) := Keeps.trans HV.out.2 hk (fun _ _ h => h)
                  clear hk
                  go_wp2_with fail
                  refine ⟨⟨acc ++ byL x, p + 6, by omega, by simp; omega, by rw [str_cat], by simp; omega, HS.out, K5.out⟩, by simp [intOf]; omega⟩
            · have hge5 : (m.size : Int) ≤ (p : Int) + 5 := by omega
              have HE : Hid (bareGo m.data.toList [] = none) := by
                show _ = _
                rw [HW.out.1, HD.out, HD1.out, bareGo_short H92.out h117n (by rw [List.length_drop, HL.out]; omega)]
              clear h117n
              go_wp2_with fail
              go_ret2
              exact ⟨by rw [HE.out]; rfl, HW.out.2⟩
        · have hge1 : (m.size : Int) ≤ (p : Int) + 1 := by omega
          have HE : Hid (bareGo m.data.toList [] = none) := by
            show _ = _
            rw [HW.out.1, HD.out, List.drop_of_length_le (by rw [HL.out]; omega), bareGo_end H92.out]
          go_wp2_with fail
          go_ret2
          exact ⟨by rw [HE.out]; rfl, HW.out.2⟩
    · have hge : (m.size : Int) ≤ (p : Int) := by omega
      have HE : Hid (bareGo m.data.toList [] = some acc) := by
        show _ = _
        rw [HW.out.1, List.drop_of_length_le (by rw [HL.out]; omega), bareGo_nil]
      go_wp2_with fail
      go_ret2
      exact ⟨by rw [HE.out]; rfl, HW.out.2⟩

set_option maxRecDepth 100000 in
theorem r5bare_any (s : ByteArray) (w : World) (hs : s.size ≤ 1000000) :
    Calls Tryd.prog 69 #[.string s] w fun e w' => e = .returned (bareV (bareD s.data.toList)) ∧ Keeps [] w w' := by
  have hl : s.data.toList.length = s.size := Array.length_toList
  by_cases h2 : s.size < 2
  · have h2' : (s.size : Int) < 2 := by omega
    have HE : Hid (bareD s.data.toList = none) := by show bareD _ = _; rw [bareD, if_pos (.inl (by omega))]
    clear hl h2
    go_enter Tryd.func69, Tryd.ntmps69
    go_wp2_with fail
    go_ret2
    exact ⟨by rw [HE.out]; rfl, by exact Keeps.K⟩
  have h2' : (2 : Int) ≤ (s.size : Int) := by omega
  have h0 : 0 < s.size := by omega
  have hl1 : s.size - 1 < s.size := by omega
  obtain ⟨c, hc⟩ : ∃ c, s[0]'h0 = c := ⟨_, rfl⟩
  obtain ⟨d, hd⟩ : ∃ d, s[s.size - 1]'hl1 = d := ⟨_, rfl⟩
  have hcl : s.data.toList.head? = some c := by
    have := byte_drop s 0 h0
    rw [List.drop_zero, hc] at this
    rw [this]; rfl
  have hdl : s.data.toList[s.data.toList.length - 1]? = some d := by
    rw [hl, List.getElem?_eq_getElem (by omega)]
    exact congrArg some hd
  by_cases hc34 : c = 34
  · by_cases hd34 : d = 34
    · subst hc34 hd34
      have hmz : (s.extract 1 (s.size - 1)).size + 2 = s.size := by rw [ByteArray.size_extract]; omega
      have e : bareD s.data.toList = bareGo (s.extract 1 (s.size - 1)).data.toList [] := by
        unfold bareD
        rw [if_neg (by rw [hcl, hdl]; simp; omega), hl]
        congr 1
        have := extract_str s 1 (s.size - 2)
        rw [show 1 + (s.size - 2) = s.size - 1 by omega] at this
        rw [this]
        rfl
      rw [e]
      exact r5bare_in s w hs (by omega) hc hd _ rfl hmz
    · have HE : Hid (bareD s.data.toList = none) := by show bareD _ = _; rw [bareD, if_pos (.inr (.inr (by rw [hdl]; simpa using hd34)))]
      subst hc34
      have hdn : ((d.toNat : Int) == 34) = false := by
        rw [beq_eq_false_iff_ne]; intro h; exact hd34 (UInt8.toNat_inj.1 (by have : (34 : UInt8).toNat = 34 := rfl; omega))
      have hdm : ((d.toNat : Int) != 34) = true := by rw [bne, hdn]; rfl
      have hdk : (d.toNat : Int) ≠ 34 := by simpa using hdn
      clear hl h2 hcl hdl hd34
      go_enter Tryd.func69, Tryd.ntmps69
      go_wp2_with fail
      go_ret2
      exact ⟨by rw [HE.out]; rfl, by exact Keeps.K⟩
  · have HE : Hid (bareD s.data.toList = none) := by show bareD _ = _; rw [bareD, if_pos (.inr (.inl (by rw [hcl]; simpa using hc34)))]
    have hdn : ((c.toNat : Int) == 34) = false := by
      rw [beq_eq_false_iff_ne]; intro h; exact hc34 (UInt8.toNat_inj.1 (by have : (34 : UInt8).toNat = 34 := rfl; omega))
    have hdm : ((c.toNat : Int) != 34) = true := by rw [bne, hdn]; rfl
    have hdk : (c.toNat : Int) ≠ 34 := by simpa using hdn
    clear hl h2 hcl hdl hc34 hd
    go_enter Tryd.func69, Tryd.ntmps69
    go_wp2_with fail
    go_ret2
    exact ⟨by rw [HE.out]; rfl, by exact Keeps.K⟩

end Go.Proofs.YtnekkkppjofdlaaDoor
