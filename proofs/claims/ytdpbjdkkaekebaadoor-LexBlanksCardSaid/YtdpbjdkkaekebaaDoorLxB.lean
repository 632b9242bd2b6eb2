/- LexBlanks: blanks between tokens, plain. -/
import Derived.Test.YtdpbjdkkaekebaaDoorLxQ
import Derived.Test.YtdpbjdkkaekebaaDoorPlaceI
import Derived.Test.YtdpbjdkkaekebaaDoorOpenI
namespace Go.Proofs.YtdpbjdkkaekebaaDoor
open Go Go.RowKit

theorem Tryd.infoInt : (Tryd.prog.info? 3).map (fun i => (i.zero, i.size, i.bytes)) = some (some (.int .i64 0), 1, 8) := by kernel_rfl
/-- How many blanks stand behind a token; which. -/
def blanksN (bl : List Int) (i : Nat) : Nat := 1 + if i < bl.length then (placeOf (bl.getD i 0) 3).toNat else 0
def blk (m : Nat) : List UInt8 := [32, 9, 10].take m
def blkL (bl : List Int) (n : Nat) : List (List UInt8) := (List.range n).map fun i => blk (blanksN bl i)
theorem blanksN_bd (bl : List Int) (i : Nat) : 1 ≤ blanksN bl i ∧ blanksN bl i ≤ 3 := by
  unfold blanksN
  have h := placeOf_bd (bl.getD i 0) 3 (by decide)
  split <;> omega
theorem blk_ok {m : Nat} (h1 : 1 ≤ m) (h3 : m ≤ 3) : Blank (blk m) ∧ blk m ≠ [] ∧ (blk m).length = m := by
  have a := Blank.byte (c := 32) (.inl rfl)
  have b := Blank.byte (c := 9) (.inr (.inl rfl))
  have c := Blank.byte (c := 10) (.inr (.inr rfl))
  obtain rfl | rfl | rfl : m = 1 ∨ m = 2 ∨ m = 3 := by omega
  · exact ⟨a, by decide, rfl⟩
  · exact ⟨a.app b, by decide, rfl⟩
  · exact ⟨a.app (b.app c), by decide, rfl⟩
theorem blkL_len (bl : List Int) (n : Nat) : (blkL bl n).length = n := by simp [blkL]
theorem blkL_ok (bl : List Int) (n : Nat) : ∀ b ∈ blkL bl n, Blank b ∧ b ≠ [] := by
  intro b hb
  simp [blkL] at hb
  obtain ⟨i, _, rfl⟩ := hb
  have h := blanksN_bd bl i
  exact ⟨(blk_ok h.1 h.2).1, (blk_ok h.1 h.2).2.1⟩
theorem blkL_drop (bl : List Int) {n i : Nat} (h : i < n) : (blkL bl n).drop i = blk (blanksN bl i) :: (blkL bl n).drop (i + 1) := by
  rw [List.drop_eq_getElem_cons (by rw [blkL_len]; exact h)]
  simp [blkL]
/-- The text so far: i tokens written again, the places at which they were. -/
structure BL (L : List UInt8) (ts : List TokD) (bl : List Int) (i : Nat) (T : List UInt8) (ats : List Nat) : Prop where
  le : i ≤ ts.length
  whole : T ++ spread L (ts.drop i) ((blkL bl ts.length).drop i) = spread L ts (blkL bl ts.length)
  res : ∃ R : List TokD, R.length = i ∧ respread L ts (blkL bl ts.length) 0 = R ++ respread L (ts.drop i) ((blkL bl ts.length).drop i) T.length ∧ ∀ j t, j < i → ts[j]? = some t → ∃ z, R[j]? = some { t with at_ := z } ∧ (j + 1 < ts.length → ats[j]? = some z)
  atl : ats.length = i
  few : T.length ≤ endAt L (ts.drop i) + 3 * i
theorem BL.zero (L : List UInt8) (ts : List TokD) (bl : List Int) : BL L ts bl 0 [] [] :=
  ⟨Nat.zero_le _, rfl, ⟨[], rfl, rfl, fun j t h => absurd h (Nat.not_lt_zero j)⟩, rfl, Nat.zero_le _⟩
theorem endAt_bd {L : List UInt8} {ts : List TokD} (hS : Segs L ts) {i : Nat} {t : TokD} (ht : ts[i]? = some t) : t.at_ ≤ endAt L (ts.drop (i + 1)) ∧ endAt L (ts.drop (i + 1)) ≤ L.length ∧ (∀ u, ts[i + 1]? = some u → endAt L (ts.drop (i + 1)) = u.at_) ∧ (¬ i + 1 < ts.length → endAt L (ts.drop (i + 1)) = L.length) := by
  have hi := (List.getElem?_eq_some_iff.1 ht).1
  by_cases h : i + 1 < ts.length
  · have e : ts.drop (i + 1) = ts[i + 1] :: ts.drop (i + 2) := List.drop_eq_getElem_cons h
    obtain ⟨g1, g2, _, _⟩ := segs_cut ts hS i t ts[i + 1] ht (List.getElem?_eq_getElem h)
    rw [e]
    refine ⟨Nat.le_of_lt g1, g2, fun u hu => ?_, fun hn => absurd h hn⟩
    rw [List.getElem?_eq_getElem h] at hu
    injection hu with hu
    rw [← hu]; rfl
  · have e : ts.drop (i + 1) = [] := List.drop_of_length_le (by omega)
    have hl := segs_last ts hS
    rw [List.getLast?_eq_getElem?, show ts.length - 1 = i by omega, ht] at hl
    injection hl with hl
    rw [e, hl]
    exact ⟨Nat.le_refl _, Nat.le_refl _, fun u hu => absurd (List.getElem?_eq_some_iff.1 hu).1 h, fun _ => rfl⟩
theorem BL.step {L : List UInt8} {ts : List TokD} {bl : List Int} {i : Nat} {T : List UInt8} {ats : List Nat} (H : BL L ts bl i T ats) (hS : Segs L ts) {t : TokD} (ht : ts[i]? = some t) :
    BL L ts bl (i + 1) (T ++ (L.drop t.at_).take (endAt L (ts.drop (i + 1)) - t.at_) ++ blk (blanksN bl i)) (ats ++ [T.length]) := by
  have hi := (List.getElem?_eq_some_iff.1 ht).1
  have hti : ts[i] = t := by rw [List.getElem?_eq_getElem hi] at ht; injection ht
  have e1 : ts.drop i = t :: ts.drop (i + 1) := by rw [List.drop_eq_getElem_cons hi, hti]
  have e2 := blkL_drop bl hi
  obtain ⟨b1, b2, b3, b4⟩ := endAt_bd hS ht
  have hb := blanksN_bd bl i
  have hbl := (blk_ok hb.1 hb.2).2.2
  have hw := H.whole
  obtain ⟨R, r1, r2, r3⟩ := H.res
  have hf := H.few
  rw [e1, e2] at hw r2
  rw [e1] at hf
  have htl : ((L.drop t.at_).take (endAt L (ts.drop (i + 1)) - t.at_)).length = endAt L (ts.drop (i + 1)) - t.at_ := by
    rw [List.length_take, List.length_drop]; omega
  refine ⟨hi, ?_, ?_, by rw [List.length_append, H.atl]; rfl, ?_⟩
  · rw [← hw]
    show _ = T ++ ((L.drop t.at_).take (endAt L (ts.drop (i + 1)) - t.at_) ++ blk (blanksN bl i) ++ spread L (ts.drop (i + 1)) ((blkL bl ts.length).drop (i + 1)))
    simp only [List.append_assoc]
  · by_cases h : i + 1 < ts.length
    · have e : ts.drop (i + 1) = ts[i + 1] :: ts.drop (i + 2) := List.drop_eq_getElem_cons h
      refine ⟨R ++ [{ t with at_ := T.length }], by rw [List.length_append, r1]; rfl, ?_, fun j u hj hu => ?_⟩
      · rw [r2, List.append_assoc]
        congr 1
        have hu := b3 ts[i + 1] (List.getElem?_eq_getElem h)
        rw [List.length_append, List.length_append, htl, hbl, hu]
        rw [e]
        show { t with at_ := T.length } :: respread L (ts[i + 1] :: ts.drop (i + 2)) _ (T.length + (ts[i + 1].at_ - t.at_) + (blk (blanksN bl i)).length) = _
        rw [hbl]
        rfl
      · rcases Nat.lt_or_ge j i with g | g
        · obtain ⟨z, z1, z2⟩ := r3 j u g hu
          exact ⟨z, by rw [List.getElem?_append_left (by omega)]; exact z1, fun h' => by rw [List.getElem?_append_left (by rw [H.atl]; exact g)]; exact z2 h'⟩
        · obtain rfl : j = i := by omega
          rw [ht] at hu
          injection hu with hu
          subst hu
          exact ⟨T.length, by rw [List.getElem?_append_right (by omega), r1]; simp, fun _ => by rw [List.getElem?_append_right (by rw [H.atl]; exact Nat.le_refl _), H.atl]; simp⟩
    · have e : ts.drop (i + 1) = [] := List.drop_of_length_le (by omega)
      refine ⟨R ++ [{ t with at_ := T.length + (blk (blanksN bl i)).length }], by rw [List.length_append, r1]; rfl, ?_, fun j u hj hu => ?_⟩
      · rw [r2, e, List.append_assoc]
        congr 1
      · rcases Nat.lt_or_ge j i with g | g
        · obtain ⟨z, z1, z2⟩ := r3 j u g hu
          exact ⟨z, by rw [List.getElem?_append_left (by omega)]; exact z1, fun h' => by rw [List.getElem?_append_left (by rw [H.atl]; exact g)]; exact z2 h'⟩
        · obtain rfl : j = i := by omega
          rw [ht] at hu
          injection hu with hu
          subst hu
          exact ⟨T.length + (blk (blanksN bl j)).length, by rw [List.getElem?_append_right (by omega), r1]; simp, fun h' => absurd h' h⟩
  · rw [List.length_append, List.length_append, htl, hbl]
    have : endAt L (t :: ts.drop (i + 1)) = t.at_ := rfl
    omega
/-- All written again. -/
theorem BL.all {L : List UInt8} {ts : List TokD} {bl : List Int} {T : List UInt8} {ats : List Nat} (H : BL L ts bl ts.length T ats) (hS : Segs L ts) (h400 : T.length ≤ 400) :
    ∃ ms, lexR T = (ms, 0, 0) ∧ ms.length = ts.length ∧ ∀ (j : Nat) (t : TokD), ts[j]? = some t → ∃ z, ms[j]? = some { t with at_ := z } ∧ (j + 1 < ts.length → ats[j]? = some z) := by
  have hd : ts.drop ts.length = [] := List.drop_of_length_le (Nat.le_refl _)
  have hw := H.whole
  obtain ⟨R, r1, r2, r3⟩ := H.res
  rw [hd] at hw r2
  have e1 : spread L [] ((blkL bl ts.length).drop ts.length) = [] := by
    rcases (blkL bl ts.length).drop ts.length with _ | ⟨x, y⟩ <;> rfl
  have e2 : respread L [] ((blkL bl ts.length).drop ts.length) T.length = [] := by
    rcases (blkL bl ts.length).drop ts.length with _ | ⟨x, y⟩ <;> rfl
  rw [e1, List.append_nil] at hw
  rw [e2, List.append_nil] at r2
  have hl := spread_lex L ts (blkL bl ts.length) 0 hS (blkL_len _ _) (blkL_ok _ _)
  rw [← hw, r2] at hl
  refine ⟨R, ?_, r1, fun j t ht => r3 j t (List.getElem?_eq_some_iff.1 ht).1 ht⟩
  unfold lexR
  rw [if_neg (by omega), hl]

set_option maxRecDepth 100000 in
set_option maxHeartbeats 16000000 in
theorem blanks_any (s : ByteArray) (av : Option Addr) (bl : List Int) (cv : Nat) (w : World) (hT : Tabs w) (hE : Errs w) (hb : ListAt numL w (fun b => b < w.heap.size) (.slice av bl.length cv) bl) (hbw : ∀ x ∈ bl, IntW x) :
    Calls Tryd.prog 4 #[.string s, .slice av bl.length cv] w fun e w' => e = .returned (.bool true) ∧ Keeps [] w w' := by
  have hl : s.data.toList.length = s.size := Array.length_toList
  have HAW := hid (fun w1 => awake6_any w1)
  have HT := hid hT
  have HE := hid hE
  have HL := hid hl
  have HFIN : ∀ (wx : World), Hid (Keeps [] w wx) → Calls Tryd.prog 9 #[] wx fun e w' => e = .returned (.bool true) ∧ Keeps [] w w' := fun wx K => (HAW.out wx (HT.out.k K.out) (HE.out.k K.out)).mono fun _ _ h => ⟨h.1, K.out.trans h.2 (fun _ _ h => h)⟩
  have HFIN := hid HFIN
  by_cases hbig : 100 < s.size
  · have hI : 100 < (s.size : Int) := by omega
    clear hT hE hl hbig hb hbw
    go_enter Tryd.func4, Tryd.ntmps4
    go_wp2_with fail
    refine (HFIN.out _ (Keeps.refl [] w)).mono ?_
    rintro e w2 ⟨rfl, hk⟩
    have K := hid hk
    clear hk
    go_wp2_with fail
    go_ret
    exact ⟨rfl, K.out⟩
  have hI : (s.size : Int) ≤ 100 := by omega
  have hs100 : s.size ≤ 100 := by omega
  have HX := hid (lxLex_any s w hT hE (by omega))
  have HBL := hid hb
  have HBW := hid hbw
  obtain ⟨⟨ts, p, e⟩, hR⟩ : ∃ x, lexR s.data.toList = x := ⟨_, rfl⟩
  have HOK : Hid (e = 0 → Segs s.data.toList ts) := fun h => by
    have := lexR_ok (L := s.data.toList) (by rw [hR]; exact h)
    rw [hR] at this
    exact this.1
  unfold LexPost at HX
  rw [hR] at HX
  dsimp only at HX
  obtain ⟨bn, hbn⟩ : ∃ bn, bl.length = bn := ⟨_, rfl⟩
  have HBN := hid hbn
  rw [hbn] at HBL ⊢
  clear hT hE hl hbig hR hb hbw hbn
  go_enter Tryd.func4, Tryd.ntmps4
  go_wp2_with fail
  refine HX.out.mono ?_
  rintro e' w2 ⟨v, rfl, hlist, hk⟩
  have K2 := hid hk
  have HLI := hid hlist
  obtain ⟨a, q, rfl⟩ := hlist.form
  clear hk hlist
  by_cases he : e = 0
  · subst he
    have hS := HOK.out rfl
    have HS := hid hS
    have hne := segs_ne hS
    have hnl := segs_le hS
    rw [HL.out] at hnl
    obtain ⟨b, off, c, hv, hc1, hc2, hc3, hc4⟩ := HLI.out.addr hne
    simp at hv
    obtain ⟨rfl, rfl⟩ := hv
    obtain ⟨n, hn⟩ : ∃ n, ts.length = n := ⟨_, rfl⟩
    have HN := hid hn
    rw [hn] at hnl hc1 ⊢
    have hn101 : n ≤ 101 := by omega
    obtain ⟨it, hi0, hz0, hz1, hz2⟩ := info_parts Tryd.infoInt
    clear hS hne hc2 hc4 hn hnl
    go_wp2_with fail
    go_loopw [8, 9, 10] (fun tv av iv wr => ∃ (i : Nat) (T : List UInt8) (ats : List Nat) (a : Option Addr) (q : Nat), tv = .string (str T) ∧ av = .slice a i q ∧ iv = .int .i64 i ∧ i ≤ n ∧ w2.heap.size ≤ wr.heap.size ∧ Hid (BL s.data.toList ts bl i T ats ∧ OwnAt numL 3 wr w2.heap.size (fun b => w2.heap.size ≤ b ∧ b ∉ ownB (.slice a i q)) (.slice a i q) (ats.map fun (x : Nat) => (x : Int)) ∧ Keeps [] w2 wr)) (fun _ _ iv _ => n - (intOf iv).toNat)
    case atStart => exact ⟨0, [], [], none, 0, rfl, rfl, rfl, Nat.zero_le _, Nat.le_refl _, BL.zero _ _ _, OwnAt.nil _ _ _ _, Keeps.refl _ _⟩
    case round =>
      obtain ⟨i, T, ats, a, q, rfl, rfl, rfl, hi, hsz, HW⟩ := hrel
      have i0 : (0 : Int) ≤ (i : Int) := Int.natCast_nonneg _
      have i1 : (i : Int) ≤ 101 := by omega
      by_cases hlt : i < n
      · have hltI : (i : Int) < (n : Int) := by omega
        obtain ⟨t, ht⟩ : ∃ t, ts[i]? = some t := ⟨_, List.getElem?_eq_getElem (by rw [HN.out]; exact hlt)⟩
        obtain ⟨b1, b2, b3, b4⟩ := endAt_bd HS.out ht
        have hstep := HW.out.1.step HS.out ht
        have hm := blanksN_bd bl i
        obtain ⟨en, hen⟩ : ∃ en, endAt s.data.toList (ts.drop (i + 1)) = en := ⟨_, rfl⟩
        rw [hen] at b1 b2 b3 b4 hstep
        obtain ⟨m, hmm⟩ : ∃ m, blanksN bl i = m := ⟨_, rfl⟩
        rw [hmm] at hm hstep
        have HM := hid hmm
        have HST := hid hstep
        obtain ⟨_, _, _, x3⟩ := tok_get (HLI.out.k HW.out.2.2) ht
        rw [HL.out] at b2 b4
        rw [HN.out] at b4
        have hfew := HW.out.1.few
        have HOWN := hid HW.out.2.1
        have HKW := hid HW.out.2.2
        have HATL := hid HW.out.1.atl
        have hTl : T.length ≤ 403 := by
          have e1 : endAt s.data.toList (ts.drop i) = t.at_ := by
            have hi' := (List.getElem?_eq_some_iff.1 ht).1
            rw [List.drop_eq_getElem_cons hi', (List.getElem?_eq_some_iff.1 ht).2]
            rfl
          rw [e1] at hfew
          omega
        have hA : (i + 1 < n ∧ ∃ u : TokD, wr.cell? ⟨b, off + (i + 1) * 4 + 3, none⟩ = some (.int .i64 en)) ∨ (¬ i + 1 < n ∧ en = s.size) := by
          by_cases h : i + 1 < n
          · left
            obtain ⟨u, hu⟩ : ∃ u, ts[i + 1]? = some u := ⟨_, List.getElem?_eq_getElem (by rw [HN.out]; exact h)⟩
            obtain ⟨_, _, _, y3⟩ := tok_get (HLI.out.k HW.out.2.2) hu
            rw [← b3 u hu] at y3
            exact ⟨h, u, y3⟩
          · exact .inr ⟨h, b4 h⟩
        have hB : (i < bn ∧ ∃ bb bo z, av = some ⟨bb, bo, none⟩ ∧ wr.cell? ⟨bb, bo + i, none⟩ = some (.int .i64 z) ∧ IntW z ∧ placeOf z 3 = ((m - 1 : Nat) : Int)) ∨ (¬ i < bn ∧ m = 1) := by
          by_cases h : i < bn
          · left
            have hne : bl ≠ [] := fun e => by have := HBN.out; rw [e] at this; simp at this; omega
            have hlb := ((HBL.out.k K2.out).k HW.out.2.2)
            have hlb2 := hlb
            rw [← HBN.out] at hlb2
            obtain ⟨bb, bo, bc, hv, _, _, _, _⟩ := hlb2.addr hne
            simp at hv
            obtain ⟨rfl, rfl⟩ := hv
            obtain ⟨z, hz⟩ : ∃ z, bl[i]? = some z := ⟨_, List.getElem?_eq_getElem (by rw [HBN.out]; exact h)⟩
            obtain ⟨cs, e1, e2⟩ := hlb.get hz
            have e1 : cs = [.int .i64 z] := e1
            subst e1
            have y := e2 0 _ rfl
            have hz2 := HBW.out z (List.mem_of_getElem? hz)
            refine ⟨h, bb, bo, z, rfl, ?_, hz2, ?_⟩
            · have e3 : bo + i * numL.size + 0 = bo + i := by show bo + i * 1 + 0 = bo + i; omega
              rw [e3] at y
              exact y
            · have hp := placeOf_bd z 3 (by decide)
              rw [← hmm]
              unfold blanksN
              rw [if_pos (by rw [HBN.out]; exact h), List.getD_eq_getElem?_getD, hz]
              show _ = ((1 + (placeOf z 3).toNat - 1 : Nat) : Int)
              omega
          · refine .inr ⟨h, ?_⟩
            rw [← hmm]
            unfold blanksN
            rw [if_neg (by rw [HBN.out]; exact h)]
        obtain ⟨sx, hsx⟩ : ∃ sx, s.extract t.at_ en = sx := ⟨_, rfl⟩
        have HSX : Hid (sx = str ((s.data.toList.drop t.at_).take (en - t.at_))) := by
          have := extract_str s t.at_ (en - t.at_)
          rw [show t.at_ + (en - t.at_) = en by omega, hsx] at this
          exact this
        have hsz1 : sx.size ≤ 100 := by rw [← hsx, ByteArray.size_extract]; omega
        obtain ⟨zx, hzx⟩ : ∃ zx, sx.size = zx := ⟨_, rfl⟩
        obtain ⟨zT, hzT⟩ : ∃ zT, (str T).size = zT := ⟨_, rfl⟩
        have HZT : Hid (T.length = zT) := hzT
        have z1 : (zT : Int) + (zx : Int) ≤ 503 := by
          have : T.length = zT := hzT
          omega
        have e1 : (t.at_ : Int) ≤ (en : Int) := by omega
        have e2 : (en : Int) ≤ (s.size : Int) := by omega
        have e0 : (0 : Int) ≤ (t.at_ : Int) := Int.natCast_nonneg _
        have m1 : (1 : Int) ≤ (m : Int) := by omega
        have m3 : (m : Int) ≤ 3 := by omega
        have mm : 1 + ((m - 1 : Nat) : Int) = (m : Int) := by omega
        have i2 : IntKind.i64.wrap ((i : Int) + 1) = (i : Int) + 1 := IntWalk.i64_in _ (by omega)
        have i3 : ((i : Int) + 1).toNat = i + 1 := by omega
        have HX0 : Hid (str T ++ s.extract t.at_ en = str (T ++ (s.data.toList.drop t.at_).take (en - t.at_))) := by
          show _ = _
          rw [hsx, HSX.out, str_cat]
        have HX0z : Hid ((str T ++ s.extract t.at_ en).size ≤ 503) := by
          show _ ≤ _
          rw [hsx, ByteArray.size_append]
          omega
        have hRW : Hid ((wr.alloc (.cells #[.int .i64 zT] 3)).heap[wr.heap.size]? = some (.cells #[.int .i64 zT] 3 (0, 0))) := heap_alloc_new _ _
        have HOB : Hid (∀ b ∈ ownB (.slice a i q), w2.heap.size ≤ b ∧ b < wr.heap.size) := fun b hb => OwnAt.ge HOWN.out b hb
        have HX3 : Hid (∀ o w6, Hid (Keeps (ownB (.slice a i q)) (wr.alloc o) w6) → w6.cell? ⟨b, off + i * 4 + 3, none⟩ = some (.int .i64 t.at_)) := fun o w6 g => by
          have h1 : (wr.alloc o).cell? ⟨b, off + i * 4 + 3, none⟩ = some (.int .i64 t.at_) := (((Keeps.refl [] wr).alloc o)).cellSome x3 (by simp)
          exact g.out.cellSome h1 (fun hm => by have := (HOB.out _ hm).1; dsimp only at this; omega)
        have HALN : Hid ((ats.map fun (x : Nat) => (x : Int)).length = i) := by show _ = _; rw [List.length_map]; exact HATL.out
        have HST2 : Hid (BL s.data.toList ts bl (i + 1) (T ++ (s.data.toList.drop t.at_).take (en - t.at_) ++ blk m) (ats ++ [zT])) := by
          have := HST.out
          rw [HZT.out] at this
          exact this
        have hEQ : en = s.size ∨ True := .inr trivial
        clear b1 b2 b3 b4 hen hmm hm hfew hTl ht hstep hsx
        rcases hA with ⟨hA1, u, y3⟩ | ⟨hA1, rfl⟩
        · have hA3 : (i : Int) + 1 < (n : Int) := by omega
          rcases hB with ⟨hB1, bb, bo, z, rfl, yz, hz2', hpl⟩ | ⟨hB1, rfl⟩
          · have hB2 : (i : Int) < (bn : Int) := by omega
            go_wp2_with fail
            refine (place_is ((m - 1 : Nat) : Int) z 3 _ (by decide) (by decide) hz2' hpl).mono ?_
            rintro e w' ⟨rfl, hwa⟩
            rw [hwa]
            clear hwa
            go_wp2_with (at_builtin; go_must (refine wpList_append_off (L := numL) (PB := fun _ => False) _ (by rfl) _ _ _ (by rfl) w2.heap.size 3 it _ 8 Tryd.underlying29 hi0 hz0 hz1 hz2 rfl (R := fun b => w2.heap.size ≤ b) (.slice a i q) (by rfl) (ats.map fun (x : Nat) => (x : Int)) [(zT : Int)] i HALN.out [[.int .i64 zT]] (HOWN.out.k (by exact Keeps.K)) (.slice _ _ _) (by rfl) 1 rfl (ElemsAt.one1 (by show _ = [_]; rfl)) (Reads.one1 hRW.out rfl) (by omega) (le_maxLen (by omega)) (by exact Nat.le_trans hsz (Keeps.size (F := []) (by exact Keeps.K))) (fun b _ hb => hb.elim) ?_; intro a6 q6 w6 ho6 hk6 hv6; have x3' := HX3.out _ _ hk6))
            obtain ⟨X0, hX0⟩ : ∃ X0, str T ++ s.extract t.at_ en = X0 := ⟨_, rfl⟩
            have HXX : Hid (X0 = str (T ++ (s.data.toList.drop t.at_).take (en - t.at_))) := hX0.symm.trans HX0.out
            have hXz : X0.size ≤ 503 := by rw [← hX0]; exact HX0z.out
            rw [hX0]
            clear hX0 x3' x3
            have KW6 : Hid (Keeps [] w2 w6) := (HKW.out.trans (G := []) ((Keeps.refl [] wr).alloc _) (fun _ _ h => h)).trans hk6.out (fun b hb hb' => by have := (HOB.out b hb').1; omega)
            go_loopw [8, 13] (fun tv kv w9 => ∃ (k : Nat) (x : ByteArray), kv = .int .i64 k ∧ tv = .string x ∧ k ≤ m ∧ x.size ≤ 503 + k ∧ Hid (x = str (T ++ (s.data.toList.drop t.at_).take (en - t.at_) ++ blk k) ∧ Keeps [] w6 w9)) (fun _ kv _ => m - (intOf kv).toNat)
            case atStart => exact ⟨0, X0, rfl, rfl, by omega, by omega, by rw [HXX.out]; simp [blk], Keeps.refl _ _⟩
            case round =>
              obtain ⟨k, x, rfl, rfl, hk, hxz, HV⟩ := hrel
              have hxI : (x.size : Int) ≤ 506 := by omega
              have k0 : (0 : Int) ≤ (k : Int) := Int.natCast_nonneg _
              by_cases hkm : k < m
              · have hkI : (k : Int) < (m : Int) := by omega
                obtain rfl | rfl | rfl : k = 0 ∨ k = 1 ∨ k = 2 := by omega
                · first
                  | (exfalso; omega)
                  | (have ix : ∀ w : World, (Instr.index 33 (.agg #[.string ⟨#[32]⟩, .string ⟨#[9]⟩, .string ⟨#[10]⟩]) (.int .i64 0)).run Tryd.prog w = .ok (.string ⟨#[32]⟩) w := fun _ => by kernel_rfl
                     go_wp2_with fail
                     exact ⟨⟨1, x ++ ⟨#[32]⟩, rfl, rfl, by omega, by rw [ByteArray.size_append]; show x.size + 1 ≤ _; omega, (by rw [HV.out.1, show (⟨#[32]⟩ : ByteArray) = str [32] from rfl, str_cat, List.append_assoc]; try rfl), HV.out.2.trans (G := []) (by exact Keeps.K) (fun _ _ h => h)⟩, by simp [intOf] <;> omega⟩)
                · first
                  | (exfalso; omega)
                  | (have ix : ∀ w : World, (Instr.index 33 (.agg #[.string ⟨#[32]⟩, .string ⟨#[9]⟩, .string ⟨#[10]⟩]) (.int .i64 1)).run Tryd.prog w = .ok (.string ⟨#[9]⟩) w := fun _ => by kernel_rfl
                     go_wp2_with fail
                     exact ⟨⟨2, x ++ ⟨#[9]⟩, rfl, rfl, by omega, by rw [ByteArray.size_append]; show x.size + 1 ≤ _; omega, (by rw [HV.out.1, show (⟨#[9]⟩ : ByteArray) = str [9] from rfl, str_cat, List.append_assoc]; try rfl), HV.out.2.trans (G := []) (by exact Keeps.K) (fun _ _ h => h)⟩, by simp [intOf] <;> omega⟩)
                · first
                  | (exfalso; omega)
                  | (have ix : ∀ w : World, (Instr.index 33 (.agg #[.string ⟨#[32]⟩, .string ⟨#[9]⟩, .string ⟨#[10]⟩]) (.int .i64 2)).run Tryd.prog w = .ok (.string ⟨#[10]⟩) w := fun _ => by kernel_rfl
                     go_wp2_with fail
                     exact ⟨⟨3, x ++ ⟨#[10]⟩, rfl, rfl, by omega, by rw [ByteArray.size_append]; show x.size + 1 ≤ _; omega, (by rw [HV.out.1, show (⟨#[10]⟩ : ByteArray) = str [10] from rfl, str_cat, List.append_assoc]; try rfl), HV.out.2.trans (G := []) (by exact Keeps.K) (fun _ _ h => h)⟩, by simp [intOf] <;> omega⟩)
              · have hkI : (m : Int) ≤ (k : Int) := by omega
                obtain rfl : m = k := by omega
                go_wp2_with fail
                refine ⟨⟨i + 1, T ++ (s.data.toList.drop t.at_).take (en - t.at_) ++ blk m, ats ++ [zT], a6, q6, congrArg Value.string HV.out.1, rfl, rfl, hlt, ?_, HST2.out, ?_, KW6.out.trans HV.out.2 (fun _ _ h => h)⟩, by simp [intOf]; omega⟩
                · exact Nat.le_trans KW6.out.size HV.out.2.size
                · have h1 := OwnAt.k ho6.out HV.out.2
                  rw [List.map_append]
                  exact h1
          · have hB2 : (bn : Int) ≤ (i : Int) := by omega
            go_wp2_with (at_builtin; go_must (refine wpList_append_off (L := numL) (PB := fun _ => False) _ (by rfl) _ _ _ (by rfl) w2.heap.size 3 it _ 8 Tryd.underlying29 hi0 hz0 hz1 hz2 rfl (R := fun b => w2.heap.size ≤ b) (.slice a i q) (by rfl) (ats.map fun (x : Nat) => (x : Int)) [(zT : Int)] i HALN.out [[.int .i64 zT]] (HOWN.out.k (by exact Keeps.K)) (.slice _ _ _) (by rfl) 1 rfl (ElemsAt.one1 (by show _ = [_]; rfl)) (Reads.one1 hRW.out rfl) (by omega) (le_maxLen (by omega)) (by exact Nat.le_trans hsz (Keeps.size (F := []) (by exact Keeps.K))) (fun b _ hb => hb.elim) ?_; intro a6 q6 w6 ho6 hk6 hv6; have x3' := HX3.out _ _ hk6))
            obtain ⟨X0, hX0⟩ : ∃ X0, str T ++ s.extract t.at_ en = X0 := ⟨_, rfl⟩
            have HXX : Hid (X0 = str (T ++ (s.data.toList.drop t.at_).take (en - t.at_))) := hX0.symm.trans HX0.out
            have hXz : X0.size ≤ 503 := by rw [← hX0]; exact HX0z.out
            rw [hX0]
            clear hX0 x3' x3
            have KW6 : Hid (Keeps [] w2 w6) := (HKW.out.trans (G := []) ((Keeps.refl [] wr).alloc _) (fun _ _ h => h)).trans hk6.out (fun b hb hb' => by have := (HOB.out b hb').1; omega)
            go_loopw [8, 13] (fun tv kv w9 => ∃ (k : Nat) (x : ByteArray), kv = .int .i64 k ∧ tv = .string x ∧ k ≤ 1 ∧ x.size ≤ 503 + k ∧ Hid (x = str (T ++ (s.data.toList.drop t.at_).take (en - t.at_) ++ blk k) ∧ Keeps [] w6 w9)) (fun _ kv _ => 1 - (intOf kv).toNat)
            case atStart => exact ⟨0, X0, rfl, rfl, by omega, by omega, by rw [HXX.out]; simp [blk], Keeps.refl _ _⟩
            case round =>
              obtain ⟨k, x, rfl, rfl, hk, hxz, HV⟩ := hrel
              have hxI : (x.size : Int) ≤ 506 := by omega
              have k0 : (0 : Int) ≤ (k : Int) := Int.natCast_nonneg _
              by_cases hkm : k < 1
              · have hkI : (k : Int) < (1 : Int) := by omega
                obtain rfl | rfl | rfl : k = 0 ∨ k = 1 ∨ k = 2 := by omega
                · first
                  | (exfalso; omega)
                  | (have ix : ∀ w : World, (Instr.index 33 (.agg #[.string ⟨#[32]⟩, .string ⟨#[9]⟩, .string ⟨#[10]⟩]) (.int .i64 0)).run Tryd.prog w = .ok (.string ⟨#[32]⟩) w := fun _ => by kernel_rfl
                     go_wp2_with fail
                     exact ⟨⟨1, x ++ ⟨#[32]⟩, rfl, rfl, by omega, by rw [ByteArray.size_append]; show x.size + 1 ≤ _; omega, (by rw [HV.out.1, show (⟨#[32]⟩ : ByteArray) = str [32] from rfl, str_cat, List.append_assoc]; try rfl), HV.out.2.trans (G := []) (by exact Keeps.K) (fun _ _ h => h)⟩, by simp [intOf] <;> omega⟩)
                · first
                  | (exfalso; omega)
                  | (have ix : ∀ w : World, (Instr.index 33 (.agg #[.string ⟨#[32]⟩, .string ⟨#[9]⟩, .string ⟨#[10]⟩]) (.int .i64 1)).run Tryd.prog w = .ok (.string ⟨#[9]⟩) w := fun _ => by kernel_rfl
                     go_wp2_with fail
                     exact ⟨⟨2, x ++ ⟨#[9]⟩, rfl, rfl, by omega, by rw [ByteArray.size_append]; show x.size + 1 ≤ _; omega, (by rw [HV.out.1, show (⟨#[9]⟩ : ByteArray) = str [9] from rfl, str_cat, List.append_assoc]; try rfl), HV.out.2.trans (G := []) (by exact Keeps.K) (fun _ _ h => h)⟩, by simp [intOf] <;> omega⟩)
                · first
                  | (exfalso; omega)
                  | (have ix : ∀ w : World, (Instr.index 33 (.agg #[.string ⟨#[32]⟩, .string ⟨#[9]⟩, .string ⟨#[10]⟩]) (.int .i64 2)).run Tryd.prog w = .ok (.string ⟨#[10]⟩) w := fun _ => by kernel_rfl
                     go_wp2_with fail
                     exact ⟨⟨3, x ++ ⟨#[10]⟩, rfl, rfl, by omega, by rw [ByteArray.size_append]; show x.size + 1 ≤ _; omega, (by rw [HV.out.1, show (⟨#[10]⟩ : ByteArray) = str [10] from rfl, str_cat, List.append_assoc]; try rfl), HV.out.2.trans (G := []) (by exact Keeps.K) (fun _ _ h => h)⟩, by simp [intOf] <;> omega⟩)
              · have hkI : (1 : Int) ≤ (k : Int) := by omega
                obtain rfl : 1 = k := by omega
                go_wp2_with fail
                refine ⟨⟨i + 1, T ++ (s.data.toList.drop t.at_).take (en - t.at_) ++ blk 1, ats ++ [zT], a6, q6, congrArg Value.string HV.out.1, rfl, rfl, hlt, ?_, HST2.out, ?_, KW6.out.trans HV.out.2 (fun _ _ h => h)⟩, by simp [intOf]; omega⟩
                · exact Nat.le_trans KW6.out.size HV.out.2.size
                · have h1 := OwnAt.k ho6.out HV.out.2
                  rw [List.map_append]
                  exact h1
        · have hA3 : (n : Int) ≤ (i : Int) + 1 := by omega
          rcases hB with ⟨hB1, bb, bo, z, rfl, yz, hz2', hpl⟩ | ⟨hB1, rfl⟩
          · have hB2 : (i : Int) < (bn : Int) := by omega
            go_wp2_with fail
            refine (place_is ((m - 1 : Nat) : Int) z 3 _ (by decide) (by decide) hz2' hpl).mono ?_
            rintro e w' ⟨rfl, hwa⟩
            rw [hwa]
            clear hwa
            go_wp2_with (at_builtin; go_must (refine wpList_append_off (L := numL) (PB := fun _ => False) _ (by rfl) _ _ _ (by rfl) w2.heap.size 3 it _ 8 Tryd.underlying29 hi0 hz0 hz1 hz2 rfl (R := fun b => w2.heap.size ≤ b) (.slice a i q) (by rfl) (ats.map fun (x : Nat) => (x : Int)) [(zT : Int)] i HALN.out [[.int .i64 zT]] (HOWN.out.k (by exact Keeps.K)) (.slice _ _ _) (by rfl) 1 rfl (ElemsAt.one1 (by show _ = [_]; rfl)) (Reads.one1 hRW.out rfl) (by omega) (le_maxLen (by omega)) (by exact Nat.le_trans hsz (Keeps.size (F := []) (by exact Keeps.K))) (fun b _ hb => hb.elim) ?_; intro a6 q6 w6 ho6 hk6 hv6; have x3' := HX3.out _ _ hk6))
            obtain ⟨X0, hX0⟩ : ∃ X0, str T ++ s.extract t.at_ s.size = X0 := ⟨_, rfl⟩
            have HXX : Hid (X0 = str (T ++ (s.data.toList.drop t.at_).take (s.size - t.at_))) := hX0.symm.trans HX0.out
            have hXz : X0.size ≤ 503 := by rw [← hX0]; exact HX0z.out
            rw [hX0]
            clear hX0 x3' x3
            have KW6 : Hid (Keeps [] w2 w6) := (HKW.out.trans (G := []) ((Keeps.refl [] wr).alloc _) (fun _ _ h => h)).trans hk6.out (fun b hb hb' => by have := (HOB.out b hb').1; omega)
            go_loopw [8, 13] (fun tv kv w9 => ∃ (k : Nat) (x : ByteArray), kv = .int .i64 k ∧ tv = .string x ∧ k ≤ m ∧ x.size ≤ 503 + k ∧ Hid (x = str (T ++ (s.data.toList.drop t.at_).take (s.size - t.at_) ++ blk k) ∧ Keeps [] w6 w9)) (fun _ kv _ => m - (intOf kv).toNat)
            case atStart => exact ⟨0, X0, rfl, rfl, by omega, by omega, by rw [HXX.out]; simp [blk], Keeps.refl _ _⟩
            case round =>
              obtain ⟨k, x, rfl, rfl, hk, hxz, HV⟩ := hrel
              have hxI : (x.size : Int) ≤ 506 := by omega
              have k0 : (0 : Int) ≤ (k : Int) := Int.natCast_nonneg _
              by_cases hkm : k < m
              · have hkI : (k : Int) < (m : Int) := by omega
                obtain rfl | rfl | rfl : k = 0 ∨ k = 1 ∨ k = 2 := by omega
                · first
                  | (exfalso; omega)
                  | (have ix : ∀ w : World, (Instr.index 33 (.agg #[.string ⟨#[32]⟩, .string ⟨#[9]⟩, .string ⟨#[10]⟩]) (.int .i64 0)).run Tryd.prog w = .ok (.string ⟨#[32]⟩) w := fun _ => by kernel_rfl
                     go_wp2_with fail
                     exact ⟨⟨1, x ++ ⟨#[32]⟩, rfl, rfl, by omega, by rw [ByteArray.size_append]; show x.size + 1 ≤ _; omega, (by rw [HV.out.1, show (⟨#[32]⟩ : ByteArray) = str [32] from rfl, str_cat, List.append_assoc]; try rfl), HV.out.2.trans (G := []) (by exact Keeps.K) (fun _ _ h => h)⟩, by simp [intOf] <;> omega⟩)
                · first
                  | (exfalso; omega)
                  | (have ix : ∀ w : World, (Instr.index 33 (.agg #[.string ⟨#[32]⟩, .string ⟨#[9]⟩, .string ⟨#[10]⟩]) (.int .i64 1)).run Tryd.prog w = .ok (.string ⟨#[9]⟩) w := fun _ => by kernel_rfl
                     go_wp2_with fail
                     exact ⟨⟨2, x ++ ⟨#[9]⟩, rfl, rfl, by omega, by rw [ByteArray.size_append]; show x.size + 1 ≤ _; omega, (by rw [HV.out.1, show (⟨#[9]⟩ : ByteArray) = str [9] from rfl, str_cat, List.append_assoc]; try rfl), HV.out.2.trans (G := []) (by exact Keeps.K) (fun _ _ h => h)⟩, by simp [intOf] <;> omega⟩)
                · first
                  | (exfalso; omega)
                  | (have ix : ∀ w : World, (Instr.index 33 (.agg #[.string ⟨#[32]⟩, .string ⟨#[9]⟩, .string ⟨#[10]⟩]) (.int .i64 2)).run Tryd.prog w = .ok (.string ⟨#[10]⟩) w := fun _ => by kernel_rfl
                     go_wp2_with fail
                     exact ⟨⟨3, x ++ ⟨#[10]⟩, rfl, rfl, by omega, by rw [ByteArray.size_append]; show x.size + 1 ≤ _; omega, (by rw [HV.out.1, show (⟨#[10]⟩ : ByteArray) = str [10] from rfl, str_cat, List.append_assoc]; try rfl), HV.out.2.trans (G := []) (by exact Keeps.K) (fun _ _ h => h)⟩, by simp [intOf] <;> omega⟩)
              · have hkI : (m : Int) ≤ (k : Int) := by omega
                obtain rfl : m = k := by omega
                go_wp2_with fail
                refine ⟨⟨i + 1, T ++ (s.data.toList.drop t.at_).take (s.size - t.at_) ++ blk m, ats ++ [zT], a6, q6, congrArg Value.string HV.out.1, rfl, rfl, hlt, ?_, HST2.out, ?_, KW6.out.trans HV.out.2 (fun _ _ h => h)⟩, by simp [intOf]; omega⟩
                · exact Nat.le_trans KW6.out.size HV.out.2.size
                · have h1 := OwnAt.k ho6.out HV.out.2
                  rw [List.map_append]
                  exact h1
          · have hB2 : (bn : Int) ≤ (i : Int) := by omega
            go_wp2_with (at_builtin; go_must (refine wpList_append_off (L := numL) (PB := fun _ => False) _ (by rfl) _ _ _ (by rfl) w2.heap.size 3 it _ 8 Tryd.underlying29 hi0 hz0 hz1 hz2 rfl (R := fun b => w2.heap.size ≤ b) (.slice a i q) (by rfl) (ats.map fun (x : Nat) => (x : Int)) [(zT : Int)] i HALN.out [[.int .i64 zT]] (HOWN.out.k (by exact Keeps.K)) (.slice _ _ _) (by rfl) 1 rfl (ElemsAt.one1 (by show _ = [_]; rfl)) (Reads.one1 hRW.out rfl) (by omega) (le_maxLen (by omega)) (by exact Nat.le_trans hsz (Keeps.size (F := []) (by exact Keeps.K))) (fun b _ hb => hb.elim) ?_; intro a6 q6 w6 ho6 hk6 hv6; have x3' := HX3.out _ _ hk6))
            obtain ⟨X0, hX0⟩ : ∃ X0, str T ++ s.extract t.at_ s.size = X0 := ⟨_, rfl⟩
            have HXX : Hid (X0 = str (T ++ (s.data.toList.drop t.at_).take (s.size - t.at_))) := hX0.symm.trans HX0.out
            have hXz : X0.size ≤ 503 := by rw [← hX0]; exact HX0z.out
            rw [hX0]
            clear hX0 x3' x3
            have KW6 : Hid (Keeps [] w2 w6) := (HKW.out.trans (G := []) ((Keeps.refl [] wr).alloc _) (fun _ _ h => h)).trans hk6.out (fun b hb hb' => by have := (HOB.out b hb').1; omega)
            go_loopw [8, 13] (fun tv kv w9 => ∃ (k : Nat) (x : ByteArray), kv = .int .i64 k ∧ tv = .string x ∧ k ≤ 1 ∧ x.size ≤ 503 + k ∧ Hid (x = str (T ++ (s.data.toList.drop t.at_).take (s.size - t.at_) ++ blk k) ∧ Keeps [] w6 w9)) (fun _ kv _ => 1 - (intOf kv).toNat)
            case atStart => exact ⟨0, X0, rfl, rfl, by omega, by omega, by rw [HXX.out]; simp [blk], Keeps.refl _ _⟩
            case round =>
              obtain ⟨k, x, rfl, rfl, hk, hxz, HV⟩ := hrel
              have hxI : (x.size : Int) ≤ 506 := by omega
              have k0 : (0 : Int) ≤ (k : Int) := Int.natCast_nonneg _
              by_cases hkm : k < 1
              · have hkI : (k : Int) < (1 : Int) := by omega
                obtain rfl | rfl | rfl : k = 0 ∨ k = 1 ∨ k = 2 := by omega
                · first
                  | (exfalso; omega)
                  | (have ix : ∀ w : World, (Instr.index 33 (.agg #[.string ⟨#[32]⟩, .string ⟨#[9]⟩, .string ⟨#[10]⟩]) (.int .i64 0)).run Tryd.prog w = .ok (.string ⟨#[32]⟩) w := fun _ => by kernel_rfl
                     go_wp2_with fail
                     exact ⟨⟨1, x ++ ⟨#[32]⟩, rfl, rfl, by omega, by rw [ByteArray.size_append]; show x.size + 1 ≤ _; omega, (by rw [HV.out.1, show (⟨#[32]⟩ : ByteArray) = str [32] from rfl, str_cat, List.append_assoc]; try rfl), HV.out.2.trans (G := []) (by exact Keeps.K) (fun _ _ h => h)⟩, by simp [intOf] <;> omega⟩)
                · first
                  | (exfalso; omega)
                  | (have ix : ∀ w : World, (Instr.index 33 (.agg #[.string ⟨#[32]⟩, .string ⟨#[9]⟩, .string ⟨#[10]⟩]) (.int .i64 1)).run Tryd.prog w = .ok (.string ⟨#[9]⟩) w := fun _ => by kernel_rfl
                     go_wp2_with fail
                     exact ⟨⟨2, x ++ ⟨#[9]⟩, rfl, rfl, by omega, by rw [ByteArray.size_append]; show x.size + 1 ≤ _; omega, (by rw [HV.out.1, show (⟨#[9]⟩ : ByteArray) = str [9] from rfl, str_cat, List.append_assoc]; try rfl), HV.out.2.trans (G := []) (by exact Keeps.K) (fun _ _ h => h)⟩, by simp [intOf] <;> omega⟩)
                · first
                  | (exfalso; omega)
                  | (have ix : ∀ w : World, (Instr.index 33 (.agg #[.string ⟨#[32]⟩, .string ⟨#[9]⟩, .string ⟨#[10]⟩]) (.int .i64 2)).run Tryd.prog w = .ok (.string ⟨#[10]⟩) w := fun _ => by kernel_rfl
                     go_wp2_with fail
                     exact ⟨⟨3, x ++ ⟨#[10]⟩, rfl, rfl, by omega, by rw [ByteArray.size_append]; show x.size + 1 ≤ _; omega, (by rw [HV.out.1, show (⟨#[10]⟩ : ByteArray) = str [10] from rfl, str_cat, List.append_assoc]; try rfl), HV.out.2.trans (G := []) (by exact Keeps.K) (fun _ _ h => h)⟩, by simp [intOf] <;> omega⟩)
              · have hkI : (1 : Int) ≤ (k : Int) := by omega
                obtain rfl : 1 = k := by omega
                go_wp2_with fail
                refine ⟨⟨i + 1, T ++ (s.data.toList.drop t.at_).take (s.size - t.at_) ++ blk 1, ats ++ [zT], a6, q6, congrArg Value.string HV.out.1, rfl, rfl, hlt, ?_, HST2.out, ?_, KW6.out.trans HV.out.2 (fun _ _ h => h)⟩, by simp [intOf]; omega⟩
                · exact Nat.le_trans KW6.out.size HV.out.2.size
                · have h1 := OwnAt.k ho6.out HV.out.2
                  rw [List.map_append]
                  exact h1
      · have hltI : (n : Int) ≤ (i : Int) := by omega
        obtain rfl : n = i := by omega
        have HBLN := hid HW.out.1
        have hfew := HW.out.1.few
        have hown := HW.out.2.1
        have HKW : Hid (Keeps [] w wr) := K2.out.trans HW.out.2.2 (fun _ _ h => h)
        have hTl : T.length ≤ 403 := by
          rw [List.drop_of_length_le (by rw [HN.out]; exact Nat.le_refl _)] at hfew
          have e1 : endAt s.data.toList [] = s.data.toList.length := rfl
          rw [e1, HL.out] at hfew
          omega
        obtain ⟨zT, hzT⟩ : ∃ zT, (str T).size = zT := ⟨_, rfl⟩
        have HZT : Hid (T.length = zT) := hzT
        by_cases h400 : 400 < T.length
        · have hbI : 400 < (zT : Int) := by have : T.length = zT := hzT; omega
          clear hfew hTl h400 hown hlt
          go_wp2_with fail
          refine (HFIN.out _ HKW).mono ?_
          rintro e w3 ⟨rfl, hk⟩
          have K := hid hk
          clear hk
          go_wp2_with fail
          go_ret
          exact ⟨rfl, K.out⟩
        · have hbI : (zT : Int) ≤ 400 := by have : T.length = zT := hzT; omega
          obtain ⟨ms, hm1, hm2, hm3⟩ := (show BL s.data.toList ts bl ts.length T ats by rw [HN.out]; exact HBLN.out).all HS.out (by omega)
          have HX2 := hid (fun w1 hT1 hE1 => lxLex_any (str T) w1 hT1 hE1 (by rw [hzT]; omega))
          unfold LexPost at HX2
          have hTT : (str T).data.toList = T := rfl
          rw [hTT, hm1] at HX2
          dsimp only at HX2
          have HM2 := hid hm2
          have HM3 := hid hm3
          have HOWN := hid hown
          clear hfew hTl h400 hown hlt hm1 hm2 hm3 hTT
          go_wp2_with fail
          refine (HX2.out _ (HT.out.k HKW.out) (HE.out.k HKW.out)).mono ?_
          rintro e' w3 ⟨v, rfl, hlist, hk⟩
          have K3 := hid (HKW.out.trans hk (fun _ _ h => h))
          have HMS := hid hlist
          have HTS : Hid (ListAt tokL w3 _ _ ts) := (HLI.out.k HW.out.2.2).k hk
          have HAT : Hid (ListAt numL w3 (fun _ => True) _ (ats.map fun (x : Nat) => (x : Int))) := OwnAt.list (HOWN.out.k hk) (fun _ _ _ => trivial) (fun _ _ => trivial)
          obtain ⟨am, qm, rfl⟩ := hlist.form
          rw [HM2.out, HN.out] at HMS ⊢
          clear hk hlist
          have f1 : ((n : Int) != (n : Int)) = false := by simp
          by_cases hn0 : n = 0
          · have := HN.out
            exact absurd (List.eq_nil_of_length_eq_zero (this.trans hn0)) (segs_ne HS.out)
          have hmne : ms ≠ [] := fun e => by have := HM2.out; rw [e, HN.out] at this; simp at this; omega
          have hmsl : ms.length = n := HM2.out.trans HN.out
          have hms2 := HMS.out
          rw [← hmsl] at hms2
          obtain ⟨bm, om, cm, hv, hcm1, _, _, _⟩ := hms2.addr hmne
          simp at hv
          obtain ⟨rfl, rfl⟩ := hv
          have hal : (ats.map fun (x : Nat) => (x : Int)).length = n := by rw [List.length_map]; exact HBLN.out.atl
          have hat2 := HAT.out
          rw [← hal] at hat2
          obtain ⟨ba, oa, ca, hv, hca1, _, _, _⟩ := hat2.addr (fun e => by rw [e] at hal; simp at hal; omega)
          simp at hv
          obtain ⟨rfl, rfl⟩ := hv
          rw [hmsl] at hcm1
          rw [hal] at hca1
          clear hms2 hat2 hmne hmsl hal
          go_wp2_with fail
          go_loopw [17] (fun iv w4 => ∃ k : Nat, k ≤ n ∧ iv = .int .i64 k ∧ Hid (Keeps [] w3 w4)) (fun iv _ => n - (intOf iv).toNat)
          case atStart => exact ⟨0, Nat.zero_le _, rfl, Keeps.refl _ _⟩
          case round =>
            obtain ⟨k, hk, rfl, HV⟩ := hrel
            have k0 : (0 : Int) ≤ (k : Int) := Int.natCast_nonneg _
            have k1 : (k : Int) ≤ 101 := by omega
            by_cases hkn : k < n
            · have hkI : (k : Int) < (n : Int) := by omega
              obtain ⟨t, ht⟩ : ∃ t, ts[k]? = some t := ⟨_, List.getElem?_eq_getElem (by rw [HN.out]; exact hkn)⟩
              obtain ⟨z, hz1, hz2⟩ := HM3.out k t ht
              obtain ⟨x0, x1, x2, _⟩ := tok_get (HTS.out.k HV.out) ht
              obtain ⟨y0, y1, y2, y3⟩ := tok_get (HMS.out.k HV.out) hz1
              dsimp only at y0 y1 y2 y3
              have k2 : IntKind.i64.wrap ((k : Int) + 1) = (k : Int) + 1 := IntWalk.i64_in _ (by omega)
              by_cases hk1 : k + 1 < n
              · have hk1I : (k : Int) + 1 < (n : Int) := by omega
                have ha := hz2 (by rw [HN.out]; exact hk1)
                obtain ⟨cs, e1, e2⟩ := (HAT.out.k HV.out).get (i := k) (a := (z : Int)) (by rw [List.getElem?_map, ha]; rfl)
                have e1 : cs = [.int .i64 (z : Int)] := e1
                subst e1
                have v0 := e2 0 _ rfl
                rw [show oa + k * numL.size + 0 = oa + k by show oa + k * 1 + 0 = oa + k; omega] at v0
                clear ht hz1 hz2 ha e2 hn0
                go_wp2_with fail
                go_quiet (fail)
                go_wp2_with fail
                exact ⟨⟨k + 1, hkn, rfl, HV.out.trans (G := []) (by exact Keeps.K) (fun _ _ h => h)⟩, by simp [intOf]; omega⟩
              · have hk1I : ((k : Int) + 1 < (n : Int)) = False := eq_false (by omega)
                clear ht hz1 hz2 hn0
                go_wp2_with fail
                go_quiet (fail)
                go_wp2_with fail
                exact ⟨⟨k + 1, hkn, rfl, HV.out.trans (G := []) (by exact Keeps.K) (fun _ _ h => h)⟩, by simp [intOf]; omega⟩
            · have hkI : (n : Int) ≤ (k : Int) := by omega
              clear hn0
              go_wp2_with fail
              refine (HFIN.out _ (K3.out.trans HV.out (fun _ _ h => h))).mono ?_
              rintro e w5 ⟨rfl, hk⟩
              have K := hid hk
              clear hk
              go_wp2_with fail
              go_ret
              exact ⟨rfl, K.out⟩
  · have f1 : ((e : Int) != 0) = true := by simp; omega
    clear he
    go_wp2_with fail
    refine (HFIN.out _ K2).mono ?_
    rintro e w3 ⟨rfl, hk⟩
    have K := hid hk
    clear hk
    go_wp2_with fail
    go_ret
    exact ⟨rfl, K.out⟩

end Go.Proofs.YtdpbjdkkaekebaaDoor
