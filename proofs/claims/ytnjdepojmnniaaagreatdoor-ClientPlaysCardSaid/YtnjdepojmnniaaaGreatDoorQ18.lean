/- Joined of LxNm, VaV, VaE2, VaF, VaW. -/
import Derived.Test.YtnjdepojmnniaaaGreatDoorLxR
import Derived.Test.YtnjdepojmnniaaaGreatDoorQ00
import Derived.Test.YtnjdepojmnniaaaGreatDoorQ04

set_option linter.unusedSimpArgs false
set_option linter.unusedVariables false

/- Names, as both have them. -/
namespace Go.Proofs.YtnjdepojmnniaaaGreatDoor
open Go Go.RowKit

def wordsL : List (List UInt8) := [[116, 114, 117, 101], [102, 97, 108, 115, 101], [105, 102], [108, 101, 110], [99, 97, 116], [99, 117, 116], [104, 97, 115], [117, 112]]
/-- Is it a word of formulas? -/
def wordD (s : ByteArray) : Bool := wordsL.any fun l => s.toList == l
/-- Is it a name? -/
def nameD (s : ByteArray) : Bool := if (lexR s.data.toList).2.2 = 0 ∧ (lexR s.data.toList).1.length = 2 ∧ ((lexR s.data.toList).1.getD 0 ⟨0, [], 0, 0⟩).kind = 3 ∧ ((lexR s.data.toList).1.getD 0 ⟨0, [], 0, 0⟩).s = s.data.toList then !wordD s else false

set_option maxRecDepth 100000 in
set_option maxHeartbeats 4000000 in
theorem lxWord_any (s : ByteArray) (w : World) : Calls Tryz.prog 60 #[.string s] w fun e w' => e = .returned (.bool (wordD s)) ∧ Keeps [] w w' := by
  have HW : Hid (∀ b, wordD s = b → Ending.returned (.bool b) = .returned (.bool (wordD s)) ∧ Keeps [] w w) := fun b h => ⟨by rw [h], Keeps.refl _ _⟩
  go_enter Tryz.func60, Tryz.ntmps60
  go_wp2_with fail
  all_goals
    go_ret
    refine HW.out _ ?_
    clear HW
    simp_all [wordD, wordsL]

theorem toList_ne {x s : ByteArray} (h : x ≠ s) : (x.toList == s.toList) = false := by
  rw [beq_eq_false_iff_ne]
  intro e
  rw [ByteArray.toList_eq, ByteArray.toList_eq] at e
  exact h (ByteArray.ext (Array.toList_inj.1 e))
theorem words_cell (w : World) (i : Nat) (h : i < 8) : (w.alloc (.cells #[.string ⟨#[116, 114, 117, 101]⟩, .string ⟨#[102, 97, 108, 115, 101]⟩, .string ⟨#[105, 102]⟩, .string ⟨#[108, 101, 110]⟩, .string ⟨#[99, 97, 116]⟩, .string ⟨#[99, 117, 116]⟩, .string ⟨#[104, 97, 115]⟩, .string ⟨#[117, 112]⟩] 9)).cell? ⟨w.heap.size, i, none⟩ = some (.string (str (wordsL.getD i []))) := by
  have hb := heap_alloc_new w (.cells #[.string ⟨#[116, 114, 117, 101]⟩, .string ⟨#[102, 97, 108, 115, 101]⟩, .string ⟨#[105, 102]⟩, .string ⟨#[108, 101, 110]⟩, .string ⟨#[99, 97, 116]⟩, .string ⟨#[99, 117, 116]⟩, .string ⟨#[104, 97, 115]⟩, .string ⟨#[117, 112]⟩] 9)
  obtain rfl | rfl | rfl | rfl | rfl | rfl | rfl | rfl : i = 0 ∨ i = 1 ∨ i = 2 ∨ i = 3 ∨ i = 4 ∨ i = 5 ∨ i = 6 ∨ i = 7 := by omega
  · exact cell_of_block hb 0
  · exact cell_of_block hb 1
  · exact cell_of_block hb 2
  · exact cell_of_block hb 3
  · exact cell_of_block hb 4
  · exact cell_of_block hb 5
  · exact cell_of_block hb 6
  · exact cell_of_block hb 7
theorem word_any {s : ByteArray} : wordD s = true ↔ ∃ j, j < 8 ∧ str (wordsL.getD j []) = s := by
  have h1 : ∀ l : List UInt8, s.toList = l ↔ str l = s := fun l => by
    constructor
    · intro h
      rw [← h, ByteArray.toList_eq]
      exact ByteArray.ext rfl
    · intro h
      rw [← h, str_toList]
  simp only [wordD, List.any_eq_true, beq_iff_eq]
  constructor
  · rintro ⟨l, hl, e⟩
    obtain ⟨j, hj, rfl⟩ := List.getElem_of_mem hl
    refine ⟨j, hj, ?_⟩
    rw [List.getD_eq_getElem?_getD, List.getElem?_eq_getElem hj]
    exact (h1 _).1 e
  · rintro ⟨j, hj, e⟩
    refine ⟨_, List.getElem_mem (show j < wordsL.length from hj), ?_⟩
    rw [List.getD_eq_getElem?_getD, List.getElem?_eq_getElem (show j < wordsL.length from hj)] at e
    exact (h1 _).2 e
set_option maxRecDepth 100000 in
set_option maxHeartbeats 4000000 in
theorem r6Reserved_any (s : ByteArray) (w : World) : Calls Tryz.prog 82 #[.string s] w fun e w' => e = .returned (.bool (wordD s)) ∧ Keeps [] w w' := by
  have HC := hid (words_cell w)
  go_enter Tryz.func82, Tryz.ntmps82
  go_wp2_with fail
  obtain ⟨w1, hw1⟩ : ∃ w1, w.alloc (.cells #[.string ⟨#[116, 114, 117, 101]⟩, .string ⟨#[102, 97, 108, 115, 101]⟩, .string ⟨#[105, 102]⟩, .string ⟨#[108, 101, 110]⟩, .string ⟨#[99, 97, 116]⟩, .string ⟨#[99, 117, 116]⟩, .string ⟨#[104, 97, 115]⟩, .string ⟨#[117, 112]⟩] 9) = w1 := ⟨_, rfl⟩
  have K1 : Hid (Keeps [] w w1) := by rw [← hw1]; exact Keeps.K
  rw [hw1] at HC ⊢
  clear hw1
  go_loopw [4] (fun iv wr => ∃ i : Nat, iv = .int .i64 i ∧ i ≤ 8 ∧ Hid ((∀ j, j < i → str (wordsL.getD j []) ≠ s) ∧ Keeps [] w1 wr)) (fun iv _ => 8 - (intOf iv).toNat)
  case atStart => exact ⟨0, rfl, by omega, fun j h => by omega, Keeps.refl _ _⟩
  case round =>
    obtain ⟨i, rfl, hi, HW⟩ := hrel
    have i0 : (0 : Int) ≤ (i : Int) := Int.natCast_nonneg _
    by_cases hlt : i < 8
    · have hltI : (i : Int) < 8 := by omega
      have y := HW.out.2.cellSome (HC.out i hlt) (by simp)
      obtain ⟨x, hx⟩ : ∃ x, str (wordsL.getD i []) = x := ⟨_, rfl⟩
      rw [hx] at y
      by_cases hxs : x = s
      · have HB : Hid (wordD s = true) := word_any.2 ⟨i, hlt, by rw [hx, hxs]⟩
        subst hxs
        clear hx
        go_wp2_with fail
        go_ret
        exact ⟨by rw [HB.out]; rfl, K1.out.trans (HW.out.2.trans (G := []) (by exact Keeps.K) (fun _ _ h => h)) (fun _ _ h => h)⟩
      · have HN := hid hxs
        have q2 := toList_ne hxs
        have HX := hid hx
        clear hx hxs
        go_wp2_with fail
        refine ⟨⟨i + 1, by go_num, by omega, fun j hj => ?_, HW.out.2.trans (G := []) (by exact Keeps.K) (fun _ _ h => h)⟩, by simp [intOf]; omega⟩
        rcases Nat.lt_or_ge j i with h | h
        · exact HW.out.1 j h
        · obtain rfl : j = i := by omega
          rw [HX.out]
          exact HN.out
    · have hltI : (8 : Int) ≤ (i : Int) := by omega
      obtain rfl : i = 8 := by omega
      have HB : Hid (wordD s = false) := by
        show _ = _
        rcases h : wordD s with _ | _
        · rfl
        · obtain ⟨j, hj, e⟩ := word_any.1 h
          exact absurd e (HW.out.1 j hj)
      go_wp2_with fail
      go_ret
      exact ⟨by rw [HB.out]; rfl, K1.out.trans HW.out.2 (fun _ _ h => h)⟩

set_option maxRecDepth 100000 in
set_option maxHeartbeats 8000000 in
theorem lxLex_all (s : ByteArray) (w : World) (hT : Tabs w) (hE : Errs w) : Calls Tryz.prog 59 #[.string s] w (LexPost s.data.toList w) := by
  by_cases hbig : s.size ≤ 1000000
  · exact lxLex_any s w hT hE hbig
  have hl : s.data.toList.length = s.size := Array.length_toList
  have hI : 400 < (s.size : Int) := by omega
  have HR : Hid (lexR s.data.toList = ([], 400, 7)) := by
    show lexR _ = _
    unfold lexR
    rw [if_pos (by rw [hl]; omega)]
  clear hl hbig hT hE
  go_enter Tryz.func59, Tryz.ntmps59
  go_wp2_with fail
  go_step3
  go_wp2_with fail
  rw [Exit.noGoto_ret]
  refine bodyPost_ret (v := .tuple #[.slice none 0 0, .int .i64 400, .int .i64 7]) (by simp [results, Tryz.results59, go_sem]) rfl ?_
  exact ⟨_, by rw [HR.out]; rfl, by rw [HR.out]; exact ListAt.nil _ _ _ _, Keeps.refl [] w⟩
set_option maxRecDepth 100000 in
set_option maxHeartbeats 8000000 in
theorem r6Lex_all (s : ByteArray) (w : World) : Calls Tryz.prog 81 #[.string s] w (LexPost s.data.toList w) := by
  by_cases hbig : s.size ≤ 1000000
  · exact r6Lex_any s w hbig
  have hl : s.data.toList.length = s.size := Array.length_toList
  have hI : 400 < (s.size : Int) := by omega
  have HR : Hid (lexR s.data.toList = ([], 400, 7)) := by
    show lexR _ = _
    unfold lexR
    rw [if_pos (by rw [hl]; omega)]
  clear hl hbig
  go_enter Tryz.func81, Tryz.ntmps81
  go_wp2_with fail
  refine bodyPost_ret (v := .tuple #[.slice none 0 0, .int .i64 400, .int .i64 7]) (by simp [results, Tryz.results81, go_sem]) rfl ?_
  exact ⟨_, by rw [HR.out]; rfl, by rw [HR.out]; exact ListAt.nil _ _ _ _, Keeps.refl [] w⟩
set_option maxRecDepth 100000 in
set_option maxHeartbeats 4000000 in
theorem lxName_any (s : ByteArray) (w : World) (hT : Tabs w) (hE : Errs w) : Calls Tryz.prog 36 #[.string s] w fun e w' => e = .returned (.bool (nameD s)) ∧ Keeps [] w w' := by
  have HX := hid (lxLex_all s w hT hE)
  obtain ⟨⟨ts, p, e⟩, hR⟩ : ∃ x, lexR s.data.toList = x := ⟨_, rfl⟩
  have HD : Hid (nameD s = if e = 0 ∧ ts.length = 2 ∧ (ts.getD 0 ⟨0, [], 0, 0⟩).kind = 3 ∧ (ts.getD 0 ⟨0, [], 0, 0⟩).s = s.data.toList then !wordD s else false) := by
    show _ = _
    unfold nameD
    rw [hR]
  unfold LexPost at HX
  rw [hR] at HX
  dsimp only at HX
  clear hR hT hE
  go_enter Tryz.func36, Tryz.ntmps36
  go_wp2_with fail
  refine HX.out.mono ?_
  rintro e' w2 ⟨v, rfl, hla, hk⟩
  have K2 := hid hk
  have LA2 := hid hla
  obtain ⟨a, q, rfl⟩ := hla.form
  by_cases he : e = 0
  · subst he
    by_cases hn : ts.length = 2
    · obtain ⟨t, u, rfl⟩ : ∃ t u, ts = [t, u] := by
        match ts, hn with
        | [t, u], _ => exact ⟨t, u, rfl⟩
      obtain ⟨b, off, c, hv, hc1, hc2, hc3, hc4⟩ := hla.addr (by simp)
      simp at hv
      obtain ⟨rfl, rfl⟩ := hv
      obtain ⟨x0, x1, _, _⟩ := tok_get hla (i := 0) rfl
      have y0 : w2.cell? ⟨b, off, none⟩ = some (.int .i64 t.kind) := x0
      have y1 : w2.cell? ⟨b, off + 1, none⟩ = some (.string (str t.s)) := by rw [Nat.zero_mul] at x1; exact x1
      have HD2 : Hid (nameD s = if t.kind = 3 ∧ t.s = s.data.toList then !wordD s else false) := by
        show _ = _
        rw [HD.out]
        simp
      obtain ⟨kd, hkd⟩ : ∃ kd, t.kind = kd := ⟨_, rfl⟩
      obtain ⟨x, hx⟩ : ∃ x, str t.s = x := ⟨_, rfl⟩
      have hxt : t.s = s.data.toList ↔ x = s := by
        constructor
        · intro h; rw [← hx, h]; exact ByteArray.ext rfl
        · intro h; rw [← h, ← hx]; rfl
      rw [hkd] at HD2 y0
      rw [hx] at y1
      have HXT := hid hxt
      clear hk hla x0 x1 hc1 hc2 hc3 hc4 hn hkd hx hxt
      by_cases h3 : kd = 3
      · subst h3
        by_cases hxs : x = s
        · have HB : Hid (nameD s = !wordD s) := by
            show _ = _
            rw [HD2.out, if_pos ⟨rfl, HXT.out.2 hxs⟩]
          subst hxs
          go_wp2_with fail
          refine (lxWord_any _ _).mono ?_
          rintro e w3 ⟨rfl, hk⟩
          have K := hid (K2.out.trans hk (fun _ _ h => h))
          clear hk
          obtain ⟨wd, hwd⟩ : ∃ wd, wordD x = wd := ⟨_, rfl⟩
          rw [hwd] at HB ⊢
          clear hwd
          rcases wd with _ | _
          all_goals
            go_wp2_with fail
            go_ret
            exact ⟨by rw [HB.out]; rfl, K.out⟩
        · have HB : Hid (nameD s = false) := by
            show _ = _
            rw [HD2.out, if_neg (fun h => hxs (HXT.out.1 h.2))]
          have q1 := toList_ne hxs
          clear hxs
          go_wp2_with fail
          go_ret
          exact ⟨by rw [HB.out]; rfl, K2.out⟩
      · have HB : Hid (nameD s = false) := by
          show _ = _
          rw [HD2.out, if_neg (fun h => h3 h.1)]
        have q1 : (kd == 3) = false := by simp; exact h3
        clear h3
        go_wp2_with fail
        go_ret
        exact ⟨by rw [HB.out]; rfl, K2.out⟩
    · have HB : Hid (nameD s = false) := by
        show _ = _
        rw [HD.out, if_neg (fun h => hn h.2.1)]
      obtain ⟨n, hn'⟩ : ∃ n, ts.length = n := ⟨_, rfl⟩
      rw [hn'] at hn ⊢
      have q1 : ((n : Int) == 2) = false := by simp; omega
      clear hk hla hn hn'
      go_wp2_with fail
      go_ret
      exact ⟨by rw [HB.out]; rfl, K2.out⟩
  · have HB : Hid (nameD s = false) := by
      show _ = _
      rw [HD.out, if_neg (fun h => he h.1)]
    have q1 : ((e : Int) == 0) = false := by simp; omega
    clear hk hla he
    go_wp2_with fail
    go_ret
    exact ⟨by rw [HB.out]; rfl, K2.out⟩

set_option maxRecDepth 100000 in
set_option maxHeartbeats 4000000 in
theorem r6Name_any (s : ByteArray) (w : World) : Calls Tryz.prog 69 #[.string s] w fun e w' => e = .returned (.bool (nameD s)) ∧ Keeps [] w w' := by
  have HX := hid (r6Lex_all s w)
  obtain ⟨⟨ts, p, e⟩, hR⟩ : ∃ x, lexR s.data.toList = x := ⟨_, rfl⟩
  have HD : Hid (nameD s = if e = 0 ∧ ts.length = 2 ∧ (ts.getD 0 ⟨0, [], 0, 0⟩).kind = 3 ∧ (ts.getD 0 ⟨0, [], 0, 0⟩).s = s.data.toList then !wordD s else false) := by
    show _ = _
    unfold nameD
    rw [hR]
  unfold LexPost at HX
  rw [hR] at HX
  dsimp only at HX
  clear hR
  go_enter Tryz.func69, Tryz.ntmps69
  go_wp2_with fail
  refine HX.out.mono ?_
  rintro e' w2 ⟨v, rfl, hla, hk⟩
  have K2 := hid hk
  have LA2 := hid hla
  obtain ⟨a, q, rfl⟩ := hla.form
  by_cases he : e = 0
  · subst he
    by_cases hn : ts.length = 2
    · obtain ⟨t, u, rfl⟩ : ∃ t u, ts = [t, u] := by
        match ts, hn with
        | [t, u], _ => exact ⟨t, u, rfl⟩
      obtain ⟨b, off, c, hv, hc1, hc2, hc3, hc4⟩ := hla.addr (by simp)
      simp at hv
      obtain ⟨rfl, rfl⟩ := hv
      obtain ⟨x0, x1, _, _⟩ := tok_get hla (i := 0) rfl
      have y0 : w2.cell? ⟨b, off, none⟩ = some (.int .i64 t.kind) := x0
      have y1 : w2.cell? ⟨b, off + 1, none⟩ = some (.string (str t.s)) := by rw [Nat.zero_mul] at x1; exact x1
      have HD2 : Hid (nameD s = if t.kind = 3 ∧ t.s = s.data.toList then !wordD s else false) := by
        show _ = _
        rw [HD.out]
        simp
      obtain ⟨kd, hkd⟩ : ∃ kd, t.kind = kd := ⟨_, rfl⟩
      obtain ⟨x, hx⟩ : ∃ x, str t.s = x := ⟨_, rfl⟩
      have hxt : t.s = s.data.toList ↔ x = s := by
        constructor
        · intro h; rw [← hx, h]; exact ByteArray.ext rfl
        · intro h; rw [← h, ← hx]; rfl
      rw [hkd] at HD2 y0
      rw [hx] at y1
      have HXT := hid hxt
      clear hk hla x0 x1 hc1 hc2 hc3 hc4 hn hkd hx hxt
      by_cases h3 : kd = 3
      · subst h3
        by_cases hxs : x = s
        · have HB : Hid (nameD s = !wordD s) := by
            show _ = _
            rw [HD2.out, if_pos ⟨rfl, HXT.out.2 hxs⟩]
          subst hxs
          go_wp2_with fail
          refine (r6Reserved_any _ _).mono ?_
          rintro e w3 ⟨rfl, hk⟩
          have K := hid (K2.out.trans hk (fun _ _ h => h))
          clear hk
          obtain ⟨wd, hwd⟩ : ∃ wd, wordD x = wd := ⟨_, rfl⟩
          rw [hwd] at HB ⊢
          clear hwd
          rcases wd with _ | _
          all_goals
            go_wp2_with fail
            go_ret
            exact ⟨by rw [HB.out]; rfl, K.out⟩
        · have HB : Hid (nameD s = false) := by
            show _ = _
            rw [HD2.out, if_neg (fun h => hxs (HXT.out.1 h.2))]
          have q1 := toList_ne hxs
          clear hxs
          go_wp2_with fail
          go_ret
          exact ⟨by rw [HB.out]; rfl, K2.out⟩
      · have HB : Hid (nameD s = false) := by
          show _ = _
          rw [HD2.out, if_neg (fun h => h3 h.1)]
        have q1 : (kd == 3) = false := by simp; exact h3
        clear h3
        go_wp2_with fail
        go_ret
        exact ⟨by rw [HB.out]; rfl, K2.out⟩
    · have HB : Hid (nameD s = false) := by
        show _ = _
        rw [HD.out, if_neg (fun h => hn h.2.1)]
      obtain ⟨n, hn'⟩ : ∃ n, ts.length = n := ⟨_, rfl⟩
      rw [hn'] at hn ⊢
      have q1 : ((n : Int) == 2) = false := by simp; omega
      clear hk hla hn hn'
      go_wp2_with fail
      go_ret
      exact ⟨by rw [HB.out]; rfl, K2.out⟩
  · have HB : Hid (nameD s = false) := by
      show _ = _
      rw [HD.out, if_neg (fun h => he h.1)]
    have q1 : ((e : Int) == 0) = false := by simp; omega
    clear hk hla he
    go_wp2_with fail
    go_ret
    exact ⟨by rw [HB.out]; rfl, K2.out⟩

end Go.Proofs.YtnjdepojmnniaaaGreatDoor

/- utf8.ValidString, in the words of 'Keeps'. -/
namespace Go.Proofs.YtnjdepojmnniaaaGreatDoor
open Go Go.RowKit

theorem uValid_any (s : ByteArray) (w : World) (hs : s.size ≤ 9223372036854775807) (hT : Tabs w) : Calls Tryz.prog 84 #[.string s] w fun e w' => e = .returned (.bool (Lib.validD s.data.toList)) ∧ Keeps [] w w' :=
  (Any.utf8_ValidString Tryz.laysValid s w hs hT.utf8).mono fun _ _ h => ⟨h.1, Keeps.ofBelowSize h.2⟩

end Go.Proofs.YtnjdepojmnniaaaGreatDoor

/- The program's runes.Valid; a text's check. -/
namespace Go.Proofs.YtnjdepojmnniaaaGreatDoor
open Go Go.RowKit

set_option maxRecDepth 100000 in
theorem ruValid_any (s : ByteArray) (w : World) (hs : s.size ≤ 9223372036854775807) (hT : Tabs w) :
    Calls Tryz.prog 75 #[.string s] w fun e w' => e = .returned (.bool (Lib.validD s.data.toList)) ∧ Keeps [] w w' := by
  have HT := hid hT
  clear hT
  go_enter Tryz.func75, Tryz.ntmps75
  go_wp2_with fail
  refine (uValid_any s w hs HT.out).mono ?_
  rintro e w1 ⟨rfl, hk⟩
  have HK := hid hk
  clear hk
  go_wp2_with fail
  go_ret
  exact ⟨rfl, HK.out⟩

theorem textOk_no1 {s : ByteArray} (h : ¬ s.size ≤ 400) : textOk s = false := by unfold textOk; simp [h]
theorem textOk_no2 {s : ByteArray} (h : Lib.validD s.data.toList = false) : textOk s = false := by unfold textOk; simp [h]
theorem textOk_yes {s : ByteArray} (h : s.size ≤ 400) (h2 : Lib.validD s.data.toList = true) : textOk s = decide ((Lib.runeCount s : Int) ≤ 100) := by
  unfold textOk
  rw [h2, decide_eq_true h, Bool.true_and, Bool.true_and, Bool.eq_iff_iff]
  simp
  omega

set_option maxRecDepth 100000 in
theorem vtext_any (s : ByteArray) (w : World) (hs : s.size ≤ 9223372036854775806) (hT : Tabs w) :
    Calls Tryz.prog 58 #[.string s] w fun e w' => e = .returned (.bool (textOk s)) ∧ Keeps [] w w' := by
  have HT := hid hT
  clear hT
  by_cases h4 : s.size ≤ 400
  · have g4 : (s.size : Int) ≤ 400 := by omega
    rcases hv : Lib.validD s.data.toList with _ | _
    · have HB : Hid (textOk s = false) := textOk_no2 hv
      have HV := hid hv
      clear hv
      go_enter Tryz.func58, Tryz.ntmps58
      go_wp2_with fail
      refine (ruValid_any s w (by omega) HT.out).mono ?_
      rintro e w1 ⟨rfl, hk⟩
      rw [HV.out]
      have HK := hid hk
      clear hk
      go_wp2_with fail
      go_ret
      exact ⟨by rw [HB.out]; rfl, HK.out⟩
    · have HB : Hid (textOk s = decide ((Lib.runeCount s : Int) ≤ 100)) := textOk_yes h4 hv
      have HV := hid hv
      clear hv
      go_enter Tryz.func58, Tryz.ntmps58
      go_wp2_with fail
      refine (ruValid_any s w (by omega) HT.out).mono ?_
      rintro e w1 ⟨rfl, hk⟩
      rw [HV.out]
      have HK := hid hk
      clear hk
      go_wp2_with fail
      refine (ruCount_any s _ (by omega)).mono ?_
      rintro e w2 ⟨rfl, hk⟩
      have HK2 : Hid (Keeps [] w w2) := HK.out.trans hk (fun _ _ h => h)
      clear hk HK
      go_wp2_with fail
      go_ret
      exact ⟨by rw [HB.out]; rfl, HK2.out⟩
  · have g4 : (400 : Int) < (s.size : Int) := by omega
    have HB : Hid (textOk s = false) := textOk_no1 h4
    clear h4
    go_enter Tryz.func58, Tryz.ntmps58
    go_wp2_with fail
    go_ret
    exact ⟨by rw [HB.out]; rfl, Keeps.refl [] w⟩

end Go.Proofs.YtnjdepojmnniaaaGreatDoor

/- A value's check: the program's, and the document's. (Printed by gen_check.py.) -/
namespace Go.Proofs.YtnjdepojmnniaaaGreatDoor
open Go Go.RowKit

theorem checkD_k {v : ValD} {k : Int} (h : v.kind = k) (b : Bool) (hb : (if k = 0 then v.n == 0 && emptyB v.s else if k = 1 then emptyB v.s else if k = 2 then (v.n == 0 || v.n == 1) && emptyB v.s else if k = 3 then v.n == 0 && textOk v.s else if k = 4 then decide (1 ≤ v.n) && decide (v.n ≤ 4) && emptyB v.s else false) = b) : checkD v = b := by
  subst h
  exact hb
theorem eq_no {a b : Int} (h : (a == b) = false) : (b == a) = false := by
  rw [beq_eq_false_iff_ne] at h ⊢
  exact fun e => h e.symm

set_option maxRecDepth 100000 in
theorem vCheck_any (v : ValD) (w : World) (hT : Tabs w) (hs : v.s.size ≤ 9223372036854775806) :
    Calls Tryz.prog 35 #[valV v] w fun e w' => e = .returned (.bool (checkD v)) ∧ Keeps [] w w' := by
  have HT := hid hT
  clear hT
  obtain ⟨k, n, s⟩ := v
  unfold valV
  by_cases k0 : k = 0
  · subst k0
    rcases hn : (n == 0) with _ | _
    all_goals
      have HB := hid (checkD_k (v := ⟨0, n, s⟩) rfl _ rfl)
      simp only [hn] at HB
      go_enter Tryz.func35, Tryz.ntmps35
      go_wp2_with fail
      go_ret
      exact ⟨by rw [HB.out]; rfl, Keeps.K⟩
  by_cases k1 : k = 1
  · subst k1
    have HB := hid (checkD_k (v := ⟨1, n, s⟩) rfl _ rfl)
    go_enter Tryz.func35, Tryz.ntmps35
    go_wp2_with fail
    go_ret
    exact ⟨by rw [HB.out]; rfl, Keeps.K⟩
  by_cases k2 : k = 2
  · subst k2
    rcases hn : (n == 0) with _ | _
    · rcases hm : (n == 1) with _ | _
      all_goals
        have HB := hid (checkD_k (v := ⟨2, n, s⟩) rfl _ rfl)
        simp only [hn, hm] at HB
        go_enter Tryz.func35, Tryz.ntmps35
        go_wp2_with fail
        go_ret
        exact ⟨by rw [HB.out]; rfl, Keeps.K⟩
    · have HB := hid (checkD_k (v := ⟨2, n, s⟩) rfl _ rfl)
      simp only [hn] at HB
      go_enter Tryz.func35, Tryz.ntmps35
      go_wp2_with fail
      go_ret
      exact ⟨by rw [HB.out]; rfl, Keeps.K⟩
  by_cases k3 : k = 3
  · subst k3
    rcases hn : (n == 0) with _ | _
    · have HB := hid (checkD_k (v := ⟨3, n, s⟩) rfl _ rfl)
      simp only [hn] at HB
      go_enter Tryz.func35, Tryz.ntmps35
      go_wp2_with fail
      go_ret
      exact ⟨by rw [HB.out]; rfl, Keeps.K⟩
    · have HB := hid (checkD_k (v := ⟨3, n, s⟩) rfl _ rfl)
      simp only [hn] at HB
      go_enter Tryz.func35, Tryz.ntmps35
      go_wp2_with fail
      refine (vtext_any s _ hs (HT.out.k (by exact Keeps.K))).mono ?_
      rintro e w1 ⟨rfl, hk⟩
      have HK : Hid (Keeps [] w w1) := Keeps.trans (by exact Keeps.K) hk (fun _ _ h => h)
      clear hk
      go_wp2_with fail
      go_ret
      exact ⟨by rw [HB.out]; rfl, HK.out⟩
  by_cases k4 : k = 4
  · subst k4
    have hc : n < 1 ∨ (1 ≤ n ∧ 4 < n) ∨ (1 ≤ n ∧ n ≤ 4) := by omega
    rcases hc with c0 | ⟨c0, c1⟩ | ⟨c0, c1⟩
    · have HB := hid (checkD_k (v := ⟨4, n, s⟩) rfl _ rfl)
      simp only [show decide (1 ≤ n) = false by simp; omega] at HB
      go_enter Tryz.func35, Tryz.ntmps35
      go_wp2_with fail
      go_ret
      exact ⟨by rw [HB.out]; rfl, Keeps.K⟩
    · have HB := hid (checkD_k (v := ⟨4, n, s⟩) rfl _ rfl)
      simp only [show decide (1 ≤ n) = true by simp; omega, show decide (n ≤ 4) = false by simp; omega] at HB
      go_enter Tryz.func35, Tryz.ntmps35
      go_wp2_with fail
      go_ret
      exact ⟨by rw [HB.out]; rfl, Keeps.K⟩
    · have HB := hid (checkD_k (v := ⟨4, n, s⟩) rfl _ rfl)
      simp only [show decide (1 ≤ n) = true by simp; omega, show decide (n ≤ 4) = true by simp; omega] at HB
      go_enter Tryz.func35, Tryz.ntmps35
      go_wp2_with fail
      go_ret
      exact ⟨by rw [HB.out]; rfl, Keeps.K⟩
  have HB : Hid (checkD ⟨k, n, s⟩ = false) := by show (if k = 0 then _ else if k = 1 then _ else if k = 2 then _ else if k = 3 then _ else if k = 4 then _ else false) = false; rw [if_neg k0, if_neg k1, if_neg k2, if_neg k3, if_neg k4]
  have e0 : (k == 0) = false := by simpa using k0
  have e1 : (k == 1) = false := by simpa using k1
  have e2 : (k == 2) = false := by simpa using k2
  have e3 : (k == 3) = false := by simpa using k3
  have e4 : (k == 4) = false := by simpa using k4
  clear k0 k1 k2 k3 k4
  go_enter Tryz.func35, Tryz.ntmps35
  go_wp2_with fail
  go_ret
  exact ⟨by rw [HB.out]; rfl, Keeps.K⟩

set_option maxRecDepth 100000 in
theorem r5Check_any (v : ValD) (w : World) (hT : Tabs w) (hs : v.s.size ≤ 9223372036854775806) :
    Calls Tryz.prog 27 #[valV v] w fun e w' => e = .returned (.bool (checkD v)) ∧ Keeps [] w w' := by
  have HT := hid hT
  clear hT
  obtain ⟨k, n, s⟩ := v
  unfold valV
  by_cases k0 : k = 0
  · subst k0
    rcases hn : (n == 0) with _ | _
    all_goals
      have HB := hid (checkD_k (v := ⟨0, n, s⟩) rfl _ rfl)
      simp only [hn] at HB
      go_enter Tryz.func27, Tryz.ntmps27
      go_wp2_with fail
      go_ret
      exact ⟨by rw [HB.out]; rfl, Keeps.K⟩
  by_cases k1 : k = 1
  · subst k1
    have HB := hid (checkD_k (v := ⟨1, n, s⟩) rfl _ rfl)
    go_enter Tryz.func27, Tryz.ntmps27
    go_wp2_with fail
    go_ret
    exact ⟨by rw [HB.out]; rfl, Keeps.K⟩
  by_cases k2 : k = 2
  · subst k2
    rcases hn : (n == 0) with _ | _
    · rcases hm : (n == 1) with _ | _
      all_goals
        have HB := hid (checkD_k (v := ⟨2, n, s⟩) rfl _ rfl)
        simp only [hn, hm] at HB
        go_enter Tryz.func27, Tryz.ntmps27
        go_wp2_with fail
        go_ret
        exact ⟨by rw [HB.out]; rfl, Keeps.K⟩
    · have HB := hid (checkD_k (v := ⟨2, n, s⟩) rfl _ rfl)
      simp only [hn] at HB
      go_enter Tryz.func27, Tryz.ntmps27
      go_wp2_with fail
      go_ret
      exact ⟨by rw [HB.out]; rfl, Keeps.K⟩
  by_cases k3 : k = 3
  · subst k3
    rcases hn : (n == 0) with _ | _
    · have HB := hid (checkD_k (v := ⟨3, n, s⟩) rfl _ rfl)
      simp only [hn] at HB
      go_enter Tryz.func27, Tryz.ntmps27
      go_wp2_with fail
      go_ret
      exact ⟨by rw [HB.out]; rfl, Keeps.K⟩
    · have HB := hid (checkD_k (v := ⟨3, n, s⟩) rfl _ rfl)
      simp only [hn] at HB
      by_cases h4 : s.size ≤ 400
      · have g4 : (s.size : Int) ≤ 400 := by omega
        rcases hv : Lib.validD s.data.toList with _ | _
        · have HC : Hid (textOk s = false) := textOk_no2 hv
          have HV := hid hv
          clear hv
          go_enter Tryz.func27, Tryz.ntmps27
          go_wp2_with fail
          refine (r1Valid_any s _ (by omega)).mono ?_
          rintro e w1 ⟨rfl, hk⟩
          rw [HV.out]
          have HK : Hid (Keeps [] w w1) := Keeps.trans (by exact Keeps.K) hk (fun _ _ h => h)
          clear hk
          go_wp2_with fail
          go_ret
          exact ⟨by rw [HB.out]; show _ = Ending.returned (.bool (true && textOk s)); rw [HC.out]; rfl, HK.out⟩
        · have HC : Hid (textOk s = decide ((Lib.runeCount s : Int) ≤ 100)) := textOk_yes h4 hv
          have HV := hid hv
          clear hv
          go_enter Tryz.func27, Tryz.ntmps27
          go_wp2_with fail
          refine (r1Valid_any s _ (by omega)).mono ?_
          rintro e w1 ⟨rfl, hk⟩
          rw [HV.out]
          have c2 : w1.cell? ⟨w.heap.size, 2, none⟩ = some (.string s) := hk.cellSome (by go_simp) (by simp)
          have HK : Hid (Keeps [] w w1) := Keeps.trans (by exact Keeps.K) hk (fun _ _ h => h)
          clear hk
          go_wp2_with fail
          refine (r1Count_any s _ (by omega)).mono ?_
          rintro e w2 ⟨rfl, hk⟩
          have HK2 : Hid (Keeps [] w w2) := HK.out.trans hk (fun _ _ h => h)
          clear hk HK
          go_wp2_with fail
          go_ret
          exact ⟨by rw [HB.out]; show _ = Ending.returned (.bool (true && textOk s)); rw [HC.out]; rfl, HK2.out⟩
      · have g4 : (400 : Int) < (s.size : Int) := by omega
        have HC : Hid (textOk s = false) := textOk_no1 h4
        clear h4
        go_enter Tryz.func27, Tryz.ntmps27
        go_wp2_with fail
        go_ret
        exact ⟨by rw [HB.out]; show _ = Ending.returned (.bool (true && textOk s)); rw [HC.out]; rfl, Keeps.K⟩
  by_cases k4 : k = 4
  · subst k4
    have hc : n < 1 ∨ (1 ≤ n ∧ 4 < n) ∨ (1 ≤ n ∧ n ≤ 4) := by omega
    rcases hc with c0 | ⟨c0, c1⟩ | ⟨c0, c1⟩
    · have HB := hid (checkD_k (v := ⟨4, n, s⟩) rfl _ rfl)
      simp only [show decide (1 ≤ n) = false by simp; omega] at HB
      go_enter Tryz.func27, Tryz.ntmps27
      go_wp2_with fail
      go_ret
      exact ⟨by rw [HB.out]; rfl, Keeps.K⟩
    · have HB := hid (checkD_k (v := ⟨4, n, s⟩) rfl _ rfl)
      simp only [show decide (1 ≤ n) = true by simp; omega, show decide (n ≤ 4) = false by simp; omega] at HB
      go_enter Tryz.func27, Tryz.ntmps27
      go_wp2_with fail
      go_ret
      exact ⟨by rw [HB.out]; rfl, Keeps.K⟩
    · have HB := hid (checkD_k (v := ⟨4, n, s⟩) rfl _ rfl)
      simp only [show decide (1 ≤ n) = true by simp; omega, show decide (n ≤ 4) = true by simp; omega] at HB
      go_enter Tryz.func27, Tryz.ntmps27
      go_wp2_with fail
      go_ret
      exact ⟨by rw [HB.out]; rfl, Keeps.K⟩
  have HB : Hid (checkD ⟨k, n, s⟩ = false) := by show (if k = 0 then _ else if k = 1 then _ else if k = 2 then _ else if k = 3 then _ else if k = 4 then _ else false) = false; rw [if_neg k0, if_neg k1, if_neg k2, if_neg k3, if_neg k4]
  have e0 : (k == 0) = false := by simpa using k0
  have e1 : (k == 1) = false := by simpa using k1
  have e2 : (k == 2) = false := by simpa using k2
  have e3 : (k == 3) = false := by simpa using k3
  have e4 : (k == 4) = false := by simpa using k4
  clear k0 k1 k2 k3 k4
  go_enter Tryz.func27, Tryz.ntmps27
  go_wp2_with fail
  go_ret
  exact ⟨by rw [HB.out]; rfl, Keeps.K⟩

end Go.Proofs.YtnjdepojmnniaaaGreatDoor

/- Check of the document, for texts of any length. -/
namespace Go.Proofs.YtnjdepojmnniaaaGreatDoor
open Go Go.RowKit

set_option maxRecDepth 100000 in
theorem r5Check_all (v : ValD) (w : World) (hT : Tabs w) :
    Calls Tryz.prog 27 #[valV v] w fun e w' => e = .returned (.bool (checkD v)) ∧ Keeps [] w w' := by
  have HT := hid hT
  clear hT
  obtain ⟨k, n, s⟩ := v
  unfold valV
  by_cases k0 : k = 0
  · subst k0
    rcases hn : (n == 0) with _ | _
    all_goals
      have HB := hid (checkD_k (v := ⟨0, n, s⟩) rfl _ rfl)
      simp only [hn] at HB
      go_enter Tryz.func27, Tryz.ntmps27
      go_wp2_with fail
      go_ret
      exact ⟨by rw [HB.out]; rfl, Keeps.K⟩
  by_cases k1 : k = 1
  · subst k1
    have HB := hid (checkD_k (v := ⟨1, n, s⟩) rfl _ rfl)
    go_enter Tryz.func27, Tryz.ntmps27
    go_wp2_with fail
    go_ret
    exact ⟨by rw [HB.out]; rfl, Keeps.K⟩
  by_cases k2 : k = 2
  · subst k2
    rcases hn : (n == 0) with _ | _
    · rcases hm : (n == 1) with _ | _
      all_goals
        have HB := hid (checkD_k (v := ⟨2, n, s⟩) rfl _ rfl)
        simp only [hn, hm] at HB
        go_enter Tryz.func27, Tryz.ntmps27
        go_wp2_with fail
        go_ret
        exact ⟨by rw [HB.out]; rfl, Keeps.K⟩
    · have HB := hid (checkD_k (v := ⟨2, n, s⟩) rfl _ rfl)
      simp only [hn] at HB
      go_enter Tryz.func27, Tryz.ntmps27
      go_wp2_with fail
      go_ret
      exact ⟨by rw [HB.out]; rfl, Keeps.K⟩
  by_cases k3 : k = 3
  · subst k3
    rcases hn : (n == 0) with _ | _
    · have HB := hid (checkD_k (v := ⟨3, n, s⟩) rfl _ rfl)
      simp only [hn] at HB
      go_enter Tryz.func27, Tryz.ntmps27
      go_wp2_with fail
      go_ret
      exact ⟨by rw [HB.out]; rfl, Keeps.K⟩
    · have HB := hid (checkD_k (v := ⟨3, n, s⟩) rfl _ rfl)
      simp only [hn] at HB
      by_cases h4 : s.size ≤ 400
      · have g4 : (s.size : Int) ≤ 400 := by omega
        rcases hv : Lib.validD s.data.toList with _ | _
        · have HC : Hid (textOk s = false) := textOk_no2 hv
          have HV := hid hv
          clear hv
          go_enter Tryz.func27, Tryz.ntmps27
          go_wp2_with fail
          refine (r1Valid_any s _ (by omega)).mono ?_
          rintro e w1 ⟨rfl, hk⟩
          rw [HV.out]
          have HK : Hid (Keeps [] w w1) := Keeps.trans (by exact Keeps.K) hk (fun _ _ h => h)
          clear hk
          go_wp2_with fail
          go_ret
          exact ⟨by rw [HB.out]; show _ = Ending.returned (.bool (true && textOk s)); rw [HC.out]; rfl, HK.out⟩
        · have HC : Hid (textOk s = decide ((Lib.runeCount s : Int) ≤ 100)) := textOk_yes h4 hv
          have HV := hid hv
          clear hv
          go_enter Tryz.func27, Tryz.ntmps27
          go_wp2_with fail
          refine (r1Valid_any s _ (by omega)).mono ?_
          rintro e w1 ⟨rfl, hk⟩
          rw [HV.out]
          have c2 : w1.cell? ⟨w.heap.size, 2, none⟩ = some (.string s) := hk.cellSome (by go_simp) (by simp)
          have HK : Hid (Keeps [] w w1) := Keeps.trans (by exact Keeps.K) hk (fun _ _ h => h)
          clear hk
          go_wp2_with fail
          refine (r1Count_any s _ (by omega)).mono ?_
          rintro e w2 ⟨rfl, hk⟩
          have HK2 : Hid (Keeps [] w w2) := HK.out.trans hk (fun _ _ h => h)
          clear hk HK
          go_wp2_with fail
          go_ret
          exact ⟨by rw [HB.out]; show _ = Ending.returned (.bool (true && textOk s)); rw [HC.out]; rfl, HK2.out⟩
      · have g4 : (400 : Int) < (s.size : Int) := by omega
        have HC : Hid (textOk s = false) := textOk_no1 h4
        clear h4
        go_enter Tryz.func27, Tryz.ntmps27
        go_wp2_with fail
        go_ret
        exact ⟨by rw [HB.out]; show _ = Ending.returned (.bool (true && textOk s)); rw [HC.out]; rfl, Keeps.K⟩
  by_cases k4 : k = 4
  · subst k4
    have hc : n < 1 ∨ (1 ≤ n ∧ 4 < n) ∨ (1 ≤ n ∧ n ≤ 4) := by omega
    rcases hc with c0 | ⟨c0, c1⟩ | ⟨c0, c1⟩
    · have HB := hid (checkD_k (v := ⟨4, n, s⟩) rfl _ rfl)
      simp only [show decide (1 ≤ n) = false by simp; omega] at HB
      go_enter Tryz.func27, Tryz.ntmps27
      go_wp2_with fail
      go_ret
      exact ⟨by rw [HB.out]; rfl, Keeps.K⟩
    · have HB := hid (checkD_k (v := ⟨4, n, s⟩) rfl _ rfl)
      simp only [show decide (1 ≤ n) = true by simp; omega, show decide (n ≤ 4) = false by simp; omega] at HB
      go_enter Tryz.func27, Tryz.ntmps27
      go_wp2_with fail
      go_ret
      exact ⟨by rw [HB.out]; rfl, Keeps.K⟩
    · have HB := hid (checkD_k (v := ⟨4, n, s⟩) rfl _ rfl)
      simp only [show decide (1 ≤ n) = true by simp; omega, show decide (n ≤ 4) = true by simp; omega] at HB
      go_enter Tryz.func27, Tryz.ntmps27
      go_wp2_with fail
      go_ret
      exact ⟨by rw [HB.out]; rfl, Keeps.K⟩
  have HB : Hid (checkD ⟨k, n, s⟩ = false) := by show (if k = 0 then _ else if k = 1 then _ else if k = 2 then _ else if k = 3 then _ else if k = 4 then _ else false) = false; rw [if_neg k0, if_neg k1, if_neg k2, if_neg k3, if_neg k4]
  have e0 : (k == 0) = false := by simpa using k0
  have e1 : (k == 1) = false := by simpa using k1
  have e2 : (k == 2) = false := by simpa using k2
  have e3 : (k == 3) = false := by simpa using k3
  have e4 : (k == 4) = false := by simpa using k4
  clear k0 k1 k2 k3 k4
  go_enter Tryz.func27, Tryz.ntmps27
  go_wp2_with fail
  go_ret
  exact ⟨by rw [HB.out]; rfl, Keeps.K⟩

theorem r5check_all (v : ValD) (b : Bool) (hb : checkD v = b) (w : World) (hT : Tabs w) :
    Calls Tryz.prog 27 #[valV v] w fun e w' => e = .returned (.bool b) ∧ Keeps [] w w' := by
  rw [← hb]; exact r5Check_all v w hT

end Go.Proofs.YtnjdepojmnniaaaGreatDoor
