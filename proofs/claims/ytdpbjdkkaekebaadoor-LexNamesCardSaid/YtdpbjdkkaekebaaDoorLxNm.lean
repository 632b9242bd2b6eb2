/- Names, as both have them. -/
import Derived.Test.YtdpbjdkkaekebaaDoorLxR
import Derived.Test.YtdpbjdkkaekebaaDoorLxP
namespace Go.Proofs.YtdpbjdkkaekebaaDoor
open Go Go.RowKit

def wordsL : List (List UInt8) := [[116, 114, 117, 101], [102, 97, 108, 115, 101], [105, 102], [108, 101, 110], [99, 97, 116], [99, 117, 116], [104, 97, 115], [117, 112]]
/-- Is it a word of formulas? -/
def wordD (s : ByteArray) : Bool := wordsL.any fun l => s.toList == l
/-- Is it a name? -/
def nameD (s : ByteArray) : Bool := if (lexR s.data.toList).2.2 = 0 ∧ (lexR s.data.toList).1.length = 2 ∧ ((lexR s.data.toList).1.getD 0 ⟨0, [], 0, 0⟩).kind = 3 ∧ ((lexR s.data.toList).1.getD 0 ⟨0, [], 0, 0⟩).s = s.data.toList then !wordD s else false

set_option maxRecDepth 100000 in
set_option maxHeartbeats 4000000 in
theorem lxWord_any (s : ByteArray) (w : World) : Calls Tryd.prog 28 #[.string s] w fun e w' => e = .returned (.bool (wordD s)) ∧ Keeps [] w w' := by
  have HW : Hid (∀ b, wordD s = b → Ending.returned (.bool b) = .returned (.bool (wordD s)) ∧ Keeps [] w w) := fun b h => ⟨by rw [h], Keeps.refl _ _⟩
  go_enter Tryd.func28, Tryd.ntmps28
  go_wp2_with fail
  all_goals
    go_ret
    refine HW.out _ ?_
    clear HW
    simp_all [wordD, wordsL]

theorem toList_ne {x s : ByteArray} (h : x ≠ s) : (x.toList == s.toList) = false := by
  rw [beq_eq_false_iff_ne]
  intro e
  rw [ByteArray.toList_eq, ByteArray.toList_eq] at e
  exact h (ByteArray.ext (Array.toList_inj.1 e))
theorem words_cell (w : World) (i : Nat) (h : i < 8) : (w.alloc (.cells #[.string ⟨#[116, 114, 117, 101]⟩, .string ⟨#[102, 97, 108, 115, 101]⟩, .string ⟨#[105, 102]⟩, .string ⟨#[108, 101, 110]⟩, .string ⟨#[99, 97, 116]⟩, .string ⟨#[99, 117, 116]⟩, .string ⟨#[104, 97, 115]⟩, .string ⟨#[117, 112]⟩] 9)).cell? ⟨w.heap.size, i, none⟩ = some (.string (str (wordsL.getD i []))) := by
  have hb := heap_alloc_new w (.cells #[.string ⟨#[116, 114, 117, 101]⟩, .string ⟨#[102, 97, 108, 115, 101]⟩, .string ⟨#[105, 102]⟩, .string ⟨#[108, 101, 110]⟩, .string ⟨#[99, 97, 116]⟩, .string ⟨#[99, 117, 116]⟩, .string ⟨#[104, 97, 115]⟩, .string ⟨#[117, 112]⟩] 9)
  obtain rfl | rfl | rfl | rfl | rfl | rfl | rfl | rfl : i = 0 ∨ i = 1 ∨ i = 2 ∨ i = 3 ∨ i = 4 ∨ i = 5 ∨ i = 6 ∨ i = 7 := by omega
  · exact cell_of_block hb 0
  · exact cell_of_block hb 1
  · exact cell_of_block hb 2
  · exact cell_of_block hb 3
  · exact cell_of_block hb 4
  · exact cell_of_block hb 5
  · exact cell_of_block hb 6
  · exact cell_of_block hb 7
theorem word_any {s : ByteArray} : wordD s = true ↔ ∃ j, j < 8 ∧ str (wordsL.getD j []) = s := by
  have h1 : ∀ l : List UInt8, s.toList = l ↔ str l = s := fun l => by
    constructor
    · intro h
      rw [← h, ByteArray.toList_eq]
      exact ByteArray.ext rfl
    · intro h
      rw [← h, str_toList]
  simp only [wordD, List.any_eq_true, beq_iff_eq]
  constructor
  · rintro ⟨l, hl, e⟩
    obtain ⟨j, hj, rfl⟩ := List.getElem_of_mem hl
    refine ⟨j, hj, ?_⟩
    rw [List.getD_eq_getElem?_getD, List.getElem?_eq_getElem hj]
    exact (h1 _).1 e
  · rintro ⟨j, hj, e⟩
    refine ⟨_, List.getElem_mem (show j < wordsL.length from hj), ?_⟩
    rw [List.getD_eq_getElem?_getD, List.getElem?_eq_getElem (show j < wordsL.length from hj)] at e
    exact (h1 _).2 e
set_option maxRecDepth 100000 in
set_option maxHeartbeats 4000000 in
theorem r6Reserved_any (s : ByteArray) (w : World) : Calls Tryd.prog 29 #[.string s] w fun e w' => e = .returned (.bool (wordD s)) ∧ Keeps [] w w' := by
  have HC := hid (words_cell w)
  go_enter Tryd.func29, Tryd.ntmps29
  go_wp2_with fail
  obtain ⟨w1, hw1⟩ : ∃ w1, w.alloc (.cells #[.string ⟨#[116, 114, 117, 101]⟩, .string ⟨#[102, 97, 108, 115, 101]⟩, .string ⟨#[105, 102]⟩, .string ⟨#[108, 101, 110]⟩, .string ⟨#[99, 97, 116]⟩, .string ⟨#[99, 117, 116]⟩, .string ⟨#[104, 97, 115]⟩, .string ⟨#[117, 112]⟩] 9) = w1 := ⟨_, rfl⟩
  have K1 : Hid (Keeps [] w w1) := by rw [← hw1]; exact Keeps.K
  rw [hw1] at HC ⊢
  clear hw1
  go_loopw [4] (fun iv wr => ∃ i : Nat, iv = .int .i64 i ∧ i ≤ 8 ∧ Hid ((∀ j, j < i → str (wordsL.getD j []) ≠ s) ∧ Keeps [] w1 wr)) (fun iv _ => 8 - (intOf iv).toNat)
  case atStart => exact ⟨0, rfl, by omega, fun j h => by omega, Keeps.refl _ _⟩
  case round =>
    obtain ⟨i, rfl, hi, HW⟩ := hrel
    have i0 : (0 : Int) ≤ (i : Int) := Int.natCast_nonneg _
    by_cases hlt : i < 8
    · have hltI : (i : Int) < 8 := by omega
      have y := HW.out.2.cellSome (HC.out i hlt) (by simp)
      obtain ⟨x, hx⟩ : ∃ x, str (wordsL.getD i []) = x := ⟨_, rfl⟩
      rw [hx] at y
      by_cases hxs : x = s
      · have HB : Hid (wordD s = true) := word_any.2 ⟨i, hlt, by rw [hx, hxs]⟩
        subst hxs
        clear hx
        go_wp2_with fail
        go_ret
        exact ⟨by rw [HB.out]; rfl, K1.out.trans (HW.out.2.trans (G := []) (by exact Keeps.K) (fun _ _ h => h)) (fun _ _ h => h)⟩
      · have HN := hid hxs
        have q2 := toList_ne hxs
        have HX := hid hx
        clear hx hxs
        go_wp2_with fail
        refine ⟨⟨i + 1, by go_num, by omega, fun j hj => ?_, HW.out.2.trans (G := []) (by exact Keeps.K) (fun _ _ h => h)⟩, by simp [intOf]; omega⟩
        rcases Nat.lt_or_ge j i with h | h
        · exact HW.out.1 j h
        · obtain rfl : j = i := by omega
          rw [HX.out]
          exact HN.out
    · have hltI : (8 : Int) ≤ (i : Int) := by omega
      obtain rfl : i = 8 := by omega
      have HB : Hid (wordD s = false) := by
        show _ = _
        rcases h : wordD s with _ | _
        · rfl
        · obtain ⟨j, hj, e⟩ := word_any.1 h
          exact absurd e (HW.out.1 j hj)
      go_wp2_with fail
      go_ret
      exact ⟨by rw [HB.out]; rfl, K1.out.trans HW.out.2 (fun _ _ h => h)⟩

set_option maxRecDepth 100000 in
set_option maxHeartbeats 8000000 in
theorem lxLex_all (s : ByteArray) (w : World) (hT : Tabs w) (hE : Errs w) : Calls Tryd.prog 10 #[.string s] w (LexPost s.data.toList w) := by
  by_cases hbig : s.size ≤ 1000000
  · exact lxLex_any s w hT hE hbig
  have hl : s.data.toList.length = s.size := Array.length_toList
  have hI : 400 < (s.size : Int) := by omega
  have HR : Hid (lexR s.data.toList = ([], 400, 7)) := by
    show lexR _ = _
    unfold lexR
    rw [if_pos (by rw [hl]; omega)]
  clear hl hbig hT hE
  go_enter Tryd.func10, Tryd.ntmps10
  go_wp2_with fail
  go_step3
  go_wp2_with fail
  rw [Exit.noGoto_ret]
  refine bodyPost_ret (v := .tuple #[.slice none 0 0, .int .i64 400, .int .i64 7]) (by simp [results, Tryd.results10, go_sem]) rfl ?_
  exact ⟨_, by rw [HR.out]; rfl, by rw [HR.out]; exact ListAt.nil _ _ _ _, Keeps.refl [] w⟩
set_option maxRecDepth 100000 in
set_option maxHeartbeats 8000000 in
theorem r6Lex_all (s : ByteArray) (w : World) : Calls Tryd.prog 11 #[.string s] w (LexPost s.data.toList w) := by
  by_cases hbig : s.size ≤ 1000000
  · exact r6Lex_any s w hbig
  have hl : s.data.toList.length = s.size := Array.length_toList
  have hI : 400 < (s.size : Int) := by omega
  have HR : Hid (lexR s.data.toList = ([], 400, 7)) := by
    show lexR _ = _
    unfold lexR
    rw [if_pos (by rw [hl]; omega)]
  clear hl hbig
  go_enter Tryd.func11, Tryd.ntmps11
  go_wp2_with fail
  refine bodyPost_ret (v := .tuple #[.slice none 0 0, .int .i64 400, .int .i64 7]) (by simp [results, Tryd.results11, go_sem]) rfl ?_
  exact ⟨_, by rw [HR.out]; rfl, by rw [HR.out]; exact ListAt.nil _ _ _ _, Keeps.refl [] w⟩
set_option maxRecDepth 100000 in
set_option maxHeartbeats 4000000 in
theorem lxName_any (s : ByteArray) (w : World) (hT : Tabs w) (hE : Errs w) : Calls Tryd.prog 14 #[.string s] w fun e w' => e = .returned (.bool (nameD s)) ∧ Keeps [] w w' := by
  have HX := hid (lxLex_all s w hT hE)
  obtain ⟨⟨ts, p, e⟩, hR⟩ : ∃ x, lexR s.data.toList = x := ⟨_, rfl⟩
  have HD : Hid (nameD s = if e = 0 ∧ ts.length = 2 ∧ (ts.getD 0 ⟨0, [], 0, 0⟩).kind = 3 ∧ (ts.getD 0 ⟨0, [], 0, 0⟩).s = s.data.toList then !wordD s else false) := by
    show _ = _
    unfold nameD
    rw [hR]
  unfold LexPost at HX
  rw [hR] at HX
  dsimp only at HX
  clear hR hT hE
  go_enter Tryd.func14, Tryd.ntmps14
  go_wp2_with fail
  refine HX.out.mono ?_
  rintro e' w2 ⟨v, rfl, hla, hk⟩
  have K2 := hid hk
  have LA2 := hid hla
  obtain ⟨a, q, rfl⟩ := hla.form
  by_cases he : e = 0
  · subst he
    by_cases hn : ts.length = 2
    · obtain ⟨t, u, rfl⟩ : ∃ t u, ts = [t, u] := by
        match ts, hn with
        | [t, u], _ => exact ⟨t, u, rfl⟩
      obtain ⟨b, off, c, hv, hc1, hc2, hc3, hc4⟩ := hla.addr (by simp)
      simp at hv
      obtain ⟨rfl, rfl⟩ := hv
      obtain ⟨x0, x1, _, _⟩ := tok_get hla (i := 0) rfl
      have y0 : w2.cell? ⟨b, off, none⟩ = some (.int .i64 t.kind) := x0
      have y1 : w2.cell? ⟨b, off + 1, none⟩ = some (.string (str t.s)) := by rw [Nat.zero_mul] at x1; exact x1
      have HD2 : Hid (nameD s = if t.kind = 3 ∧ t.s = s.data.toList then !wordD s else false) := by
        show _ = _
        rw [HD.out]
        simp
      obtain ⟨kd, hkd⟩ : ∃ kd, t.kind = kd := ⟨_, rfl⟩
      obtain ⟨x, hx⟩ : ∃ x, str t.s = x := ⟨_, rfl⟩
      have hxt : t.s = s.data.toList ↔ x = s := by
        constructor
        · intro h; rw [← hx, h]; exact ByteArray.ext rfl
        · intro h; rw [← h, ← hx]; rfl
      rw [hkd] at HD2 y0
      rw [hx] at y1
      have HXT := hid hxt
      clear hk hla x0 x1 hc1 hc2 hc3 hc4 hn hkd hx hxt
      by_cases h3 : kd = 3
      · subst h3
        by_cases hxs : x = s
        · have HB : Hid (nameD s = !wordD s) := by
            show _ = _
            rw [HD2.out, if_pos ⟨rfl, HXT.out.2 hxs⟩]
          subst hxs
          go_wp2_with fail
          refine (lxWord_any _ _).mono ?_
          rintro e w3 ⟨rfl, hk⟩
          have K := hid (K2.out.trans hk (fun _ _ h => h))
          clear hk
          obtain ⟨wd, hwd⟩ : ∃ wd, wordD x = wd := ⟨_, rfl⟩
          rw [hwd] at HB ⊢
          clear hwd
          rcases wd with _ | _
          all_goals
            go_wp2_with fail
            go_ret
            exact ⟨by rw [HB.out]; rfl, K.out⟩
        · have HB : Hid (nameD s = false) := by
            show _ = _
            rw [HD2.out, if_neg (fun h => hxs (HXT.out.1 h.2))]
          have q1 := toList_ne hxs
          clear hxs
          go_wp2_with fail
          go_ret
          exact ⟨by rw [HB.out]; rfl, K2.out⟩
      · have HB : Hid (nameD s = false) := by
          show _ = _
          rw [HD2.out, if_neg (fun h => h3 h.1)]
        have q1 : (kd == 3) = false := by simp; exact h3
        clear h3
        go_wp2_with fail
        go_ret
        exact ⟨by rw [HB.out]; rfl, K2.out⟩
    · have HB : Hid (nameD s = false) := by
        show _ = _
        rw [HD.out, if_neg (fun h => hn h.2.1)]
      obtain ⟨n, hn'⟩ : ∃ n, ts.length = n := ⟨_, rfl⟩
      rw [hn'] at hn ⊢
      have q1 : ((n : Int) == 2) = false := by simp; omega
      clear hk hla hn hn'
      go_wp2_with fail
      go_ret
      exact ⟨by rw [HB.out]; rfl, K2.out⟩
  · have HB : Hid (nameD s = false) := by
      show _ = _
      rw [HD.out, if_neg (fun h => he h.1)]
    have q1 : ((e : Int) == 0) = false := by simp; omega
    clear hk hla he
    go_wp2_with fail
    go_ret
    exact ⟨by rw [HB.out]; rfl, K2.out⟩

set_option maxRecDepth 100000 in
set_option maxHeartbeats 4000000 in
theorem r6Name_any (s : ByteArray) (w : World) : Calls Tryd.prog 15 #[.string s] w fun e w' => e = .returned (.bool (nameD s)) ∧ Keeps [] w w' := by
  have HX := hid (r6Lex_all s w)
  obtain ⟨⟨ts, p, e⟩, hR⟩ : ∃ x, lexR s.data.toList = x := ⟨_, rfl⟩
  have HD : Hid (nameD s = if e = 0 ∧ ts.length = 2 ∧ (ts.getD 0 ⟨0, [], 0, 0⟩).kind = 3 ∧ (ts.getD 0 ⟨0, [], 0, 0⟩).s = s.data.toList then !wordD s else false) := by
    show _ = _
    unfold nameD
    rw [hR]
  unfold LexPost at HX
  rw [hR] at HX
  dsimp only at HX
  clear hR
  go_enter Tryd.func15, Tryd.ntmps15
  go_wp2_with fail
  refine HX.out.mono ?_
  rintro e' w2 ⟨v, rfl, hla, hk⟩
  have K2 := hid hk
  have LA2 := hid hla
  obtain ⟨a, q, rfl⟩ := hla.form
  by_cases he : e = 0
  · subst he
    by_cases hn : ts.length = 2
    · obtain ⟨t, u, rfl⟩ : ∃ t u, ts = [t, u] := by
        match ts, hn with
        | [t, u], _ => exact ⟨t, u, rfl⟩
      obtain ⟨b, off, c, hv, hc1, hc2, hc3, hc4⟩ := hla.addr (by simp)
      simp at hv
      obtain ⟨rfl, rfl⟩ := hv
      obtain ⟨x0, x1, _, _⟩ := tok_get hla (i := 0) rfl
      have y0 : w2.cell? ⟨b, off, none⟩ = some (.int .i64 t.kind) := x0
      have y1 : w2.cell? ⟨b, off + 1, none⟩ = some (.string (str t.s)) := by rw [Nat.zero_mul] at x1; exact x1
      have HD2 : Hid (nameD s = if t.kind = 3 ∧ t.s = s.data.toList then !wordD s else false) := by
        show _ = _
        rw [HD.out]
        simp
      obtain ⟨kd, hkd⟩ : ∃ kd, t.kind = kd := ⟨_, rfl⟩
      obtain ⟨x, hx⟩ : ∃ x, str t.s = x := ⟨_, rfl⟩
      have hxt : t.s = s.data.toList ↔ x = s := by
        constructor
        · intro h; rw [← hx, h]; exact ByteArray.ext rfl
        · intro h; rw [← h, ← hx]; rfl
      rw [hkd] at HD2 y0
      rw [hx] at y1
      have HXT := hid hxt
      clear hk hla x0 x1 hc1 hc2 hc3 hc4 hn hkd hx hxt
      by_cases h3 : kd = 3
      · subst h3
        by_cases hxs : x = s
        · have HB : Hid (nameD s = !wordD s) := by
            show _ = _
            rw [HD2.out, if_pos ⟨rfl, HXT.out.2 hxs⟩]
          subst hxs
          go_wp2_with fail
          refine (r6Reserved_any _ _).mono ?_
          rintro e w3 ⟨rfl, hk⟩
          have K := hid (K2.out.trans hk (fun _ _ h => h))
          clear hk
          obtain ⟨wd, hwd⟩ : ∃ wd, wordD x = wd := ⟨_, rfl⟩
          rw [hwd] at HB ⊢
          clear hwd
          rcases wd with _ | _
          all_goals
            go_wp2_with fail
            go_ret
            exact ⟨by rw [HB.out]; rfl, K.out⟩
        · have HB : Hid (nameD s = false) := by
            show _ = _
            rw [HD2.out, if_neg (fun h => hxs (HXT.out.1 h.2))]
          have q1 := toList_ne hxs
          clear hxs
          go_wp2_with fail
          go_ret
          exact ⟨by rw [HB.out]; rfl, K2.out⟩
      · have HB : Hid (nameD s = false) := by
          show _ = _
          rw [HD2.out, if_neg (fun h => h3 h.1)]
        have q1 : (kd == 3) = false := by simp; exact h3
        clear h3
        go_wp2_with fail
        go_ret
        exact ⟨by rw [HB.out]; rfl, K2.out⟩
    · have HB : Hid (nameD s = false) := by
        show _ = _
        rw [HD.out, if_neg (fun h => hn h.2.1)]
      obtain ⟨n, hn'⟩ : ∃ n, ts.length = n := ⟨_, rfl⟩
      rw [hn'] at hn ⊢
      have q1 : ((n : Int) == 2) = false := by simp; omega
      clear hk hla hn hn'
      go_wp2_with fail
      go_ret
      exact ⟨by rw [HB.out]; rfl, K2.out⟩
  · have HB : Hid (nameD s = false) := by
      show _ = _
      rw [HD.out, if_neg (fun h => he h.1)]
    have q1 : ((e : Int) == 0) = false := by simp; omega
    clear hk hla he
    go_wp2_with fail
    go_ret
    exact ⟨by rw [HB.out]; rfl, K2.out⟩

set_option maxRecDepth 100000 in
theorem names_any (s : ByteArray) (w : World) (hT : Tabs w) (hE : Errs w) :
    Calls Tryd.prog 7 #[.string s] w fun e w' => e = .returned (.bool true) ∧ Keeps [] w w' := by
  have HAW := hid (fun w1 => awake6_any w1)
  have HT := hid hT
  have HE := hid hE
  have HX := hid (lxName_any s w hT hE)
  have HY := hid (fun w1 => r6Name_any s w1)
  obtain ⟨b, hb⟩ : ∃ b, nameD s = b := ⟨_, rfl⟩
  rw [hb] at HX HY
  have q : (b == b) = true := by simp
  clear hT hE hb
  go_enter Tryd.func7, Tryd.ntmps7
  go_wp2_with fail
  refine HX.out.mono ?_
  rintro e w2 ⟨rfl, hk⟩
  have K2 := hid hk
  clear hk
  go_wp2_with fail
  refine (HY.out _).mono ?_
  rintro e w3 ⟨rfl, hk⟩
  have K3 := hid (K2.out.trans hk (fun _ _ h => h))
  clear hk
  go_wp2_with fail
  refine (HAW.out _ (HT.out.k K3.out) (HE.out.k K3.out)).mono ?_
  rintro e w4 ⟨rfl, hk⟩
  have K := hid (K3.out.trans hk (fun _ _ h => h))
  clear hk
  go_wp2_with fail
  go_ret
  exact ⟨rfl, K.out⟩

end Go.Proofs.YtdpbjdkkaekebaaDoor
