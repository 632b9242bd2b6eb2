/- Joined of RfJ, RfK, LxD. -/
import Derived.Test.YtnjdepojmnniaaaGreatDoorQ06
import Derived.Lib.ParseIntBCases

set_option linter.unusedSimpArgs false
set_option linter.unusedVariables false

/- A quoted text, read: Unquoted. -/
namespace Go.Proofs.YtnjdepojmnniaaaGreatDoor
open Go Go.RowKit

theorem builder_k {T e : TypeId} {B b : Nat} {bs : List Value} {W W' : World} (h : Lib.IsBuilderF T e B b bs W) (k : Keeps [] W W') : Lib.IsBuilderF T e B b bs W' := by
  have key : ∀ p, Lib.BuilderAtF T e B b p bs W → Lib.BuilderAtF T e B b p bs W' := by
    intro p ⟨hB, v, hb, hown, hne⟩
    refine ⟨hB, v, (k.block b (Array.getElem?_eq_some_iff.1 hb).1 (by simp)).trans hb, ?_, hne⟩
    rcases hown with ⟨h1, h2⟩
    refine ⟨h1, ?_⟩
    rcases h2 with h2 | ⟨g, cap, cur, fr, rfl, hbg, hg, rest⟩
    · exact .inl h2
    · exact .inr ⟨g, cap, cur, fr, rfl, hbg, (k.block g (Array.getElem?_eq_some_iff.1 hg).1 (by simp)).trans hg, rest⟩
  exact h.elim (fun x => .inl (key _ x)) (fun x => .inr (key _ x))
def unqV (o : Option (List UInt8 × Nat)) : Value := match o with
  | some (t, p) => .tuple #[.string (str t), .int .i64 p, .bool true]
  | none => .tuple #[.string ⟨#[]⟩, .int .i64 0, .bool false]
/-- p bytes of a text that begins with a quote are read, and they say acc. -/
def UAt (l acc : List UInt8) (p : Nat) : Prop := 1 ≤ p ∧ p ≤ l.length ∧ acc.length ≤ 4 * p ∧ ∃ f, l.length < f + p ∧ unqL l = unqGo f (l.drop p) acc p

theorem hx_lt : ∀ (l : List UInt8) (x v : Nat) (k : Nat), l.length ≤ k → hx l x = some v → x < 16 ^ (4 - k) → k ≤ 4 → v < 65536
  | [], x, v, k, _, h, hx', hk => by
    injection h with h
    subst h
    have h1 : 16 ^ (4 - k) ≤ 16 ^ 4 := Nat.pow_le_pow_right (by decide) (by omega)
    have e : (16 : Nat) ^ 4 = 65536 := by decide
    omega
  | c :: r, x, v, k, hl, h, hx', hk => by
    unfold hx at h
    rcases hc : hexV c with _ | d
    · rw [hc] at h; cases h
    · rw [hc] at h
      have hd := hexV_lt hc
      rcases k with _ | k
      · simp at hl
      · refine hx_lt r (x * 16 + d) v k (by simpa using hl) h ?_ (by omega)
        rw [show 4 - k = (4 - (k + 1)) + 1 by omega, Nat.pow_succ]
        omega
theorem enc_len4 (r : Nat) : (Lib.encodeRune (r : Int)).length ≤ 4 := by
  have h := Lib.runeCells_le (r : Int)
  rw [Lib.runeCells_length] at h
  exact h.2
theorem UAt.zero {l : List UInt8} (h : l.head? = some 34) : UAt l [] 1 := by
  match l, h with
  | b :: t, h =>
    have hb : b = 34 := by simpa using h
    subst hb
    refine ⟨Nat.le_refl _, by simp, by simp, t.length + 1, by simp, ?_⟩
    show (if (34 : UInt8).toNat = 34 then unqGo (t.length + 1) t [] 1 else none) = _
    rw [if_pos (by decide)]
    rfl
theorem UAt.f {l acc : List UInt8} {p : Nat} (h : UAt l acc p) : ∃ f, l.length < f + 1 + p ∧ unqL l = unqGo (f + 1) (l.drop p) acc p := by
  obtain ⟨h1, h2, h3, f, h4, h5⟩ := h
  rcases f with _ | f
  · omega
  · exact ⟨f, h4, h5⟩
theorem UAt.end_ {l acc : List UInt8} {p : Nat} (h : UAt l acc p) (hp : ¬ p < l.length) : unqL l = none := by
  obtain ⟨f, h4, h5⟩ := h.f
  rw [h5, List.drop_of_length_le (by omega), unqGo_succ, if_pos rfl]
theorem UAt.ne {l : List UInt8} {p : Nat} (hp : p < l.length) : l.drop p ≠ [] := by simp; omega
theorem UAt.quote {l acc : List UInt8} {p : Nat} (h : UAt l acc p) (hp : p < l.length) (hq : (Lib.decodeL (l.drop p)).1 = 34) : unqL l = some (acc, p + 1) := by
  obtain ⟨f, h4, h5⟩ := h.f
  rw [h5, unqGo_succ, if_neg (UAt.ne hp), if_pos hq]
theorem UAt.signNo {l acc : List UInt8} {p : Nat} (h : UAt l acc p) (hp : p < l.length) (hq : (Lib.decodeL (l.drop p)).1 = 92) (he : (escL (l.drop p)).2 = 0) : unqL l = none := by
  obtain ⟨f, h4, h5⟩ := h.f
  rw [h5, unqGo_succ, if_neg (UAt.ne hp), if_neg (by omega), if_pos hq, if_pos he]
theorem escL_le (l : List UInt8) : (escL l).2 ≤ l.length ∧ ((escL l).2 = 0 ∨ 2 ≤ (escL l).2) ∧ ((escL l).1 < 55296 ∨ (57344 ≤ (escL l).1 ∧ (escL l).1 ≤ 65535)) := by
  match l with
  | [] => exact ⟨by simp [escL], by simp [escL], by simp [escL]⟩
  | [_] => exact ⟨by simp [escL], by simp [escL], by simp [escL]⟩
  | a :: b :: t =>
    have b256 := b.toNat_lt
    by_cases h1 : b.toNat = 34 ∨ b.toNat = 92
    · rw [escL_sign h1]
      refine ⟨by simp, by simp, ?_⟩
      dsimp only; omega
    · by_cases h2 : b.toNat = 117
      · by_cases h4 : 4 ≤ t.length
        · rw [escL_hx h1 h2 h4]
          rcases hh : hx (t.take 4) 0 with _ | v
          · simp
          · have hv : v < 65536 := hx_lt (t.take 4) 0 v 4 (by rw [List.length_take]; omega) hh (by simp) (Nat.le_refl _)
            dsimp only
            split
            · simp
            · simp; omega
        · rw [escL_short h1 (by omega)]; simp
      · rw [escL_no h1 h2]; simp
theorem UAt.sign {l acc : List UInt8} {p : Nat} (h : UAt l acc p) (hp : p < l.length) (hq : (Lib.decodeL (l.drop p)).1 = 92) (he : (escL (l.drop p)).2 ≠ 0) : UAt l (acc ++ Lib.encodeRune ((escL (l.drop p)).1 : Int)) (p + (escL (l.drop p)).2) := by
  have hf := h.f
  obtain ⟨h1, h2, h3, _⟩ := h
  obtain ⟨f, h4, h5⟩ := hf
  have hl := escL_le (l.drop p)
  have hen := enc_len4 (escL (l.drop p)).1
  rw [List.length_drop] at hl
  refine ⟨by omega, by omega, by rw [List.length_append]; omega, f, by omega, ?_⟩
  rw [h5, unqGo_succ, if_neg (UAt.ne hp), if_neg (by omega), if_pos hq, if_neg he, List.drop_drop]
theorem UAt.bad {l acc : List UInt8} {p : Nat} (h : UAt l acc p) (hp : p < l.length) (hq : (Lib.decodeL (l.drop p)).1 ≠ 34) (hs : (Lib.decodeL (l.drop p)).1 ≠ 92) (hb : ((Lib.decodeL (l.drop p)).1 = 65533 ∧ (Lib.decodeL (l.drop p)).2 = 1) ∨ ctlR (Lib.decodeL (l.drop p)).1 = true) : unqL l = none := by
  obtain ⟨f, h4, h5⟩ := h.f
  rw [h5, unqGo_succ, if_neg (UAt.ne hp), if_neg hq, if_neg hs, if_pos hb]
theorem UAt.rune {l acc : List UInt8} {p : Nat} (h : UAt l acc p) (hp : p < l.length) (hq : (Lib.decodeL (l.drop p)).1 ≠ 34) (hs : (Lib.decodeL (l.drop p)).1 ≠ 92) (hb : ¬ (((Lib.decodeL (l.drop p)).1 = 65533 ∧ (Lib.decodeL (l.drop p)).2 = 1) ∨ ctlR (Lib.decodeL (l.drop p)).1 = true)) : UAt l (acc ++ Lib.encodeRune ((Lib.decodeL (l.drop p)).1 : Int)) (p + (Lib.decodeL (l.drop p)).2) := by
  have hf := h.f
  obtain ⟨h1, h2, h3, _⟩ := h
  obtain ⟨f, h4, h5⟩ := hf
  have hw := Lib.decodeL_width (l.drop p)
  have hle := Lib.decodeL_le (l.drop p) (UAt.ne hp)
  have hen := enc_len4 (Lib.decodeL (l.drop p)).1
  rw [List.length_drop] at hle
  refine ⟨by omega, by omega, by rw [List.length_append]; omega, f, by omega, ?_⟩
  rw [h5, unqGo_succ, if_neg (UAt.ne hp), if_neg hq, if_neg hs, if_neg hb, List.drop_drop]

set_option maxRecDepth 100000 in
set_option maxHeartbeats 8000000 in
theorem unquoted_any (s : ByteArray) (w : World) (hT : Tabs w) (hs : s.size ≤ 1000000) :
    Calls Tryz.prog 89 #[.string s] w fun e w' => e = .returned (unqV (unqL s.data.toList)) ∧ Keeps [] w w' := by
  have hl : s.data.toList.length = s.size := Array.length_toList
  by_cases h34 : s.data.toList.head? = some 34
  · have hpos : 0 < s.size := by
      rw [← hl]
      rcases e : s.data.toList with _ | ⟨b, t⟩
      · rw [e] at h34; cases h34
      · simp
    have hc0 : s[0]'hpos = 34 := by
      have := byte_drop s 0 hpos
      rw [List.drop_zero] at this
      rw [this] at h34
      simpa using h34
    have HT := hid hT
    have HL := hid hl
    have HU0 := hid (UAt.zero h34)
    have hsI : (1 : Int) ≤ (s.size : Int) := by omega
    have HSZ := hid hs
    clear hT hl h34
    go_enter Tryz.func89, Tryz.ntmps89
    go_wp2_with fail
    go_loopw [6] (fun iv wr => ∃ (p : Nat) (acc : List UInt8), p ≤ s.size ∧ acc.length ≤ 4000000 ∧ iv = .int .i64 p ∧ Hid (Lib.IsBuilderF 148 5 w.heap.size w.heap.size (Lib.byteCells acc) wr ∧ UAt s.data.toList acc p ∧ Keeps [] w wr)) (fun iv _ => s.size - (intOf iv).toNat)
    case atStart => exact ⟨1, [], by omega, by simp, rfl, Lib.IsBuilderF.of (Lib.fresh_isBuilder 148 5 w), HU0.out, by exact Keeps.K⟩
    case round =>
      obtain ⟨p, acc, hp, hal, rfl, HW⟩ := hrel
      have i0 : (0 : Int) ≤ (p : Int) := Int.natCast_nonneg _
      have hwz : w.heap.size ≤ wr.heap.size := HW.out.2.2.size
      by_cases hlt : p < s.size
      · have hlt' : (p : Int) < (s.size : Int) := by omega
        obtain ⟨m, hm⟩ : ∃ m, s.extract p s.size = m := ⟨_, rfl⟩
        have hml : m.data.toList = s.data.toList.drop p := by
          have := extract_str s p (s.size - p)
          rw [show p + (s.size - p) = s.size by omega, hm] at this
          rw [this]
          exact List.take_of_length_le (by rw [List.length_drop, HL.out]; omega)
        have hmz : m.size = s.size - p := by rw [← hm, ByteArray.size_extract]; omega
        have HMZ := hid hmz
        have HA := hid hal
        have HPL : Hid (p < s.data.toList.length) := (by rw [HL.out]; exact hlt : p < s.data.toList.length)
        have hW2 := HW.out.2.1
        have HQ1 : Hid ((Lib.decodeL m.data.toList).1 = 34 → unqL s.data.toList = some (acc, p + 1)) := fun h => hW2.quote HPL.out (by rw [← hml]; exact h)
        have HQ2 : Hid ((Lib.decodeL m.data.toList).1 = 92 → (escL m.data.toList).2 = 0 → unqL s.data.toList = none) := fun h h' => hW2.signNo HPL.out (by rw [← hml]; exact h) (by rw [← hml]; exact h')
        have HQ3 : Hid ((Lib.decodeL m.data.toList).1 = 92 → (escL m.data.toList).2 ≠ 0 → UAt s.data.toList (acc ++ Lib.encodeRune ((escL m.data.toList).1 : Int)) (p + (escL m.data.toList).2)) := fun h h' => by
          have := hW2.sign HPL.out (by rw [← hml]; exact h) (by rw [← hml]; exact h')
          rw [← hml] at this
          exact this
        have HQ4 : Hid ((Lib.decodeL m.data.toList).1 ≠ 34 → (Lib.decodeL m.data.toList).1 ≠ 92 → (((Lib.decodeL m.data.toList).1 = 65533 ∧ (Lib.decodeL m.data.toList).2 = 1) ∨ ctlR (Lib.decodeL m.data.toList).1 = true) → unqL s.data.toList = none) := fun h h' h'' => by
          rw [hml] at h h' h''
          exact hW2.bad HPL.out h h' h''
        have HQ5 : Hid ((Lib.decodeL m.data.toList).1 ≠ 34 → (Lib.decodeL m.data.toList).1 ≠ 92 → ¬ (((Lib.decodeL m.data.toList).1 = 65533 ∧ (Lib.decodeL m.data.toList).2 = 1) ∨ ctlR (Lib.decodeL m.data.toList).1 = true) → UAt s.data.toList (acc ++ Lib.encodeRune ((Lib.decodeL m.data.toList).1 : Int)) (p + (Lib.decodeL m.data.toList).2)) := fun h h' h'' => by
          rw [hml] at h h' h''
          have := hW2.rune HPL.out h h' h''
          rw [← hml] at this
          exact this
        have HEL := hid (escL_le m.data.toList)
        have hdv := decodeL_valid m.data.toList
        have hdw := Lib.decodeL_width m.data.toList
        have HES := hid (fun w1 => escape_any m w1 (by omega))
        have HAT := hid (fun w1 hT1 => ruAt_zero m w1 hT1 (by omega) (by omega))
        obtain ⟨⟨r, n⟩, hrn⟩ : ∃ rn, Lib.decodeL m.data.toList = rn := ⟨_, rfl⟩
        obtain ⟨⟨er, en⟩, hen⟩ : ∃ x, escL m.data.toList = x := ⟨_, rfl⟩
        rw [hrn] at hdv hdw HQ1 HQ2 HQ3 HQ4 HQ5 HAT
        rw [hen] at HQ2 HQ3 HEL HES
        dsimp only at hdv hdw HQ1 HQ2 HQ3 HQ4 HQ5 HAT HEL HES
        have hel := HEL.out
        rw [Array.length_toList, show m.data.size = m.size from rfl, hmz] at hel
        clear hW2 hml hrn hen hmz HEL
        have r1 : r ≤ 1114111 := by omega
        go_wp2_with fail
        refine (HAT.out _ (HT.out.k HW.out.2.2)).mono ?_
        rintro e w2 ⟨rfl, hk⟩
        have K2 : Hid (Keeps [] wr w2) := Keeps.trans (by exact Keeps.K) hk (fun _ _ h => h)
        have HB2 : Hid (Lib.IsBuilderF 148 5 w.heap.size w.heap.size (Lib.byteCells acc) w2) := builder_k HW.out.1 K2.out
        have KW2 : Hid (Keeps [] w w2) := HW.out.2.2.trans K2.out (fun _ _ h => h)
        have hz2 : w.heap.size ≤ w2.heap.size := KW2.out.size
        clear hk
        rcases h34 : ((r : Int) == 34) with _ | _
        · have r34 : r ≠ 34 := by have h := beq_eq_false_iff_ne.1 h34; omega
          rcases h92 : ((r : Int) == 92) with _ | _
          · have r92 : r ≠ 92 := by have h := beq_eq_false_iff_ne.1 h92; omega
            clear hm
            by_cases hbad : (r = 65533 ∧ n = 1) ∨ ctlR r = true
            · have HE := hid (HQ4.out r34 r92 hbad)
              have hc : ((((r : Int) == 65533) = true) ∧ (((n : Int) == 1) = true)) ∨ ((((r : Int) == 65533) = false) ∧ (r : Int) < 32) ∨ ((((r : Int) == 65533) = false) ∧ 32 ≤ (r : Int) ∧ 127 ≤ (r : Int) ∧ (r : Int) ≤ 159) := by simp [ctlR] at hbad ⊢; omega
              clear hbad r34 r92
              rcases hc with ⟨c1, c2⟩ | ⟨c1, c2⟩ | ⟨c1, c2, c3, c4⟩
              all_goals
                go_wp2_with fail
                go_ret3
                exact ⟨by rw [HE.out]; rfl, KW2.out⟩
            · have HN := hid (HQ5.out r34 r92 hbad)
              have hpn : p + n ≤ s.size := by have h := HN.out.2.1; rw [HL.out] at h; exact h
              have hc : ((((r : Int) == 65533) = true) ∧ (((n : Int) == 1) = false) ∧ 32 ≤ (r : Int) ∧ 127 ≤ (r : Int) ∧ 159 < (r : Int)) ∨ ((((r : Int) == 65533) = false) ∧ 32 ≤ (r : Int) ∧ (r : Int) < 127) ∨ ((((r : Int) == 65533) = false) ∧ 32 ≤ (r : Int) ∧ 127 ≤ (r : Int) ∧ 159 < (r : Int)) := by simp [ctlR] at hbad ⊢; omega
              have hn0 : ((n : Int) == 0) = false := by simp; omega
              have hn1 : (n : Int) ≠ 0 := by omega
              clear hbad r34 r92
              rcases hc with ⟨c1, c2, c3, c4, c5⟩ | ⟨c1, c2, c3⟩ | ⟨c1, c2, c3, c4⟩
              all_goals
                go_wp2_with fail
                refine (Tryz.Builder_WriteRune_k w.heap.size w.heap.size _ (r : Int) (by omega) (by omega) _ HB2.out (by rw [Lib.byteCells_length]; have := HA.out; omega) hz2).mono ?_
                rintro e w5 ⟨rfl, h5, b5, k5⟩
                have HJ : Hid (Lib.IsBuilderF 148 5 w.heap.size w.heap.size (Lib.byteCells (acc ++ Lib.encodeRune (r : Int))) w5) := by
                  have e : Lib.byteCells (acc ++ Lib.encodeRune (r : Int)) = Lib.byteCells acc ++ Lib.runeCells (r : Int) := by rw [← Lib.byteCells_encodeRune, ← Lib.byteCells_append]
                  show Lib.IsBuilderF _ _ _ _ _ _
                  rw [e]
                  exact Or.inr h5
                have K5 : Hid (Keeps [] w w5) := Keeps.ofBelowSize (KW2.out.belowSize.trans b5)
                clear h5 b5 k5
                go_wp2_with fail
                go_roundw
                case rel => exact ⟨p + n, acc ++ Lib.encodeRune (r : Int), by omega, by have h := HN.out.2.2.1; omega, by go_num, HJ.out, HN.out, K5.out⟩
                case measure => simp [intOf]; omega
          · have r92 : r = 92 := by have h := beq_iff_eq.1 h92; omega
            go_wp2_with fail
            refine (HES.out _).mono ?_
            rintro e w3 ⟨rfl, hk⟩
            have K3 : Hid (Keeps [] w2 w3) := Keeps.trans (by exact Keeps.K) hk (fun _ _ h => h)
            have HB3 : Hid (Lib.IsBuilderF 148 5 w.heap.size w.heap.size (Lib.byteCells acc) w3) := builder_k HB2.out K3.out
            have KW3 : Hid (Keeps [] w w3) := KW2.out.trans K3.out (fun _ _ h => h)
            have hz3 : w.heap.size ≤ w3.heap.size := KW3.out.size
            clear hk hm
            by_cases h0 : en = 0
            · have HE := hid (HQ2.out r92 h0)
              subst h0
              clear r92
              go_wp2_with fail
              go_ret3
              exact ⟨by rw [HE.out]; rfl, KW3.out⟩
            · have HN := hid (HQ3.out r92 h0)
              have hpn : p + en ≤ s.size := by have h := HN.out.2.1; rw [HL.out] at h; exact h
              have hn0 : ((en : Int) == 0) = false := by simp; omega
              have hn1 : (en : Int) ≠ 0 := by omega
              have er1 : er ≤ 65535 := by omega
              clear r92 h0
              go_wp2_with fail
              refine (Tryz.Builder_WriteRune_k w.heap.size w.heap.size _ (er : Int) (by omega) (by omega) _ HB3.out (by rw [Lib.byteCells_length]; have := HA.out; omega) hz3).mono ?_
              rintro e w5 ⟨rfl, h5, b5, k5⟩
              have HJ : Hid (Lib.IsBuilderF 148 5 w.heap.size w.heap.size (Lib.byteCells (acc ++ Lib.encodeRune (er : Int))) w5) := by
                have e : Lib.byteCells (acc ++ Lib.encodeRune (er : Int)) = Lib.byteCells acc ++ Lib.runeCells (er : Int) := by rw [← Lib.byteCells_encodeRune, ← Lib.byteCells_append]
                show Lib.IsBuilderF _ _ _ _ _ _
                rw [e]
                exact Or.inr h5
              have K5 : Hid (Keeps [] w w5) := Keeps.ofBelowSize (KW3.out.belowSize.trans b5)
              clear h5 b5 k5
              go_wp2_with fail
              go_roundw
              case rel => exact ⟨p + en, acc ++ Lib.encodeRune (er : Int), by omega, by have h := HN.out.2.2.1; omega, by go_num, HJ.out, HN.out, K5.out⟩
              case measure => simp [intOf]; omega
        · have hr : r = 34 := by have := beq_iff_eq.1 h34; omega
          have HE := hid (HQ1.out hr)
          clear hr hm
          go_wp2_with fail
          refine (Tryz.Builder_String_any_k w.heap.size w.heap.size _ _ HB2.out hz2).mono ?_
          rintro e w5 ⟨rfl, _, b5, _⟩
          have K5 : Hid (Keeps [] w w5) := Keeps.ofBelowSize (KW2.out.belowSize.trans b5)
          clear b5
          go_wp2_with fail
          go_ret3
          exact ⟨by rw [HE.out]; simp [unqV, str], K5.out⟩
      · have hge : (s.size : Int) ≤ (p : Int) := by omega
        have HE : Hid (unqL s.data.toList = none) := HW.out.2.1.end_ (by rw [HL.out]; omega)
        go_wp2_with fail
        go_ret3
        exact ⟨by rw [HE.out]; rfl, HW.out.2.2⟩
  · have HE : Hid (unqL s.data.toList = none) := by
      show _ = _
      unfold unqL
      rcases e : s.data.toList with _ | ⟨b, t⟩
      · rfl
      · have : b.toNat ≠ 34 := by
          intro hb
          rw [e] at h34
          exact h34 (by rw [List.head?_cons]; congr 1; exact UInt8.toNat_inj.1 hb)
        show (if b.toNat = 34 then _ else none) = _
        rw [if_neg this]
    by_cases h1 : s.size ≤ 1
    · have h1' : (s.size : Int) ≤ 1 := by omega
      clear h34 hl
      go_enter Tryz.func89, Tryz.ntmps89
      go_wp2_with fail
      go_loopw [6] (fun iv wr => iv = .int .i64 1 ∧ Hid (Keeps [] w wr)) (fun iv _ => 0)
      case atStart => exact ⟨rfl, by exact Keeps.K⟩
      case round =>
        obtain ⟨rfl, HW⟩ := hrel
        go_wp2_with fail
        go_ret3
        exact ⟨by rw [HE.out]; rfl, HW.out⟩
    · have h1' : (1 : Int) < (s.size : Int) := by omega
      have h0 : 0 < s.size := by omega
      obtain ⟨c, hc⟩ : ∃ c, s[0]'h0 = c := ⟨_, rfl⟩
      have hc34 : ((c.toNat : Int) == 34) = false := by
        have := byte_drop s 0 h0
        rw [List.drop_zero, hc] at this
        rw [this] at h34
        rw [beq_eq_false_iff_ne]
        intro h
        exact h34 (by rw [List.head?_cons]; congr 1; exact UInt8.toNat_inj.1 (by have : (34 : UInt8).toNat = 34 := rfl; omega))
      clear h34 hl
      go_enter Tryz.func89, Tryz.ntmps89
      go_wp2_with fail
      go_loopw [6] (fun iv wr => iv = .int .i64 1 ∧ Hid (Keeps [] w wr)) (fun iv _ => 0)
      case atStart => exact ⟨rfl, by exact Keeps.K⟩
      case round =>
        obtain ⟨rfl, HW⟩ := hrel
        go_wp2_with fail
        go_ret3
        exact ⟨by rw [HE.out]; rfl, HW.out⟩

end Go.Proofs.YtnjdepojmnniaaaGreatDoor

/- A shown value, read again: plain. -/
namespace Go.Proofs.YtnjdepojmnniaaaGreatDoor
open Go Go.RowKit

theorem parseU_dec (m : Nat) : ∀ (r : List UInt8), m ≤ 18446744073709551615 → Lib.parseUintM 18446744073709551615 0 (Lib.decDigits m ++ r) = Lib.parseUintM 18446744073709551615 m r := by
  induction m using Nat.strongRecOn with
  | _ m ih =>
    intro r hm
    by_cases h : m < 10
    · rw [dec_small m h]
      show Lib.parseUintM _ 0 (UInt8.ofNat (48 + m) :: r) = _
      conv => lhs; unfold Lib.parseUintM
      rw [dig_toNat m h, if_pos (by omega), if_neg (by omega), if_neg (by omega)]
      congr 1
      omega
    · rw [dec_step m (by omega), List.append_assoc, ih (m / 10) (by omega) _ (by omega)]
      show Lib.parseUintM _ (m / 10) (UInt8.ofNat (48 + m % 10) :: r) = _
      conv => lhs; unfold Lib.parseUintM
      rw [dig_toNat _ (by omega), if_pos (by omega), if_neg (by omega), if_neg (by omega)]
      congr 1
      omega
theorem parseUB_dec (m : Nat) (hm : m ≤ 18446744073709551615) : Lib.parseUintB 64 (Lib.decDigits m) = .ok m := by
  unfold Lib.parseUintB
  rw [if_neg (decDigits_ne m), show 2 ^ 64 - 1 = 18446744073709551615 by decide]
  have := parseU_dec m [] hm
  rw [List.append_nil] at this
  rw [this]
  rfl
theorem parse_itoa (n : Int) (hn : I64 n) : Lib.parseIntB 64 (Lib.itoa n) = .ok n := by
  obtain ⟨h0, h1⟩ := hn
  unfold Lib.itoa
  by_cases hm : n < 0
  · obtain ⟨m, rfl⟩ : ∃ m : Nat, n = -(m : Int) := ⟨n.natAbs, by omega⟩
    rw [if_pos hm, Int.natAbs_neg, Int.natAbs_natCast, Lib.parseIntB_minus, parseUB_dec m (by omega)]
    show (if 2 ^ (64 - 1) < m then _ else _) = _
    rw [if_neg (by omega)]
  · obtain ⟨m, rfl⟩ : ∃ m : Nat, n = (m : Int) := ⟨n.toNat, by omega⟩
    rw [if_neg hm, Int.toNat_natCast]
    have hd := decDigits_head m
    rcases e : Lib.decDigits m with _ | ⟨c, r⟩
    · exact absurd e (decDigits_ne m)
    · have hc := hd c (by rw [e]; rfl)
      rw [Lib.parseIntB_plain 64 c r (by omega) (by omega), ← e, parseUB_dec m (by omega)]
      show (if 2 ^ (64 - 1) ≤ m then _ else _) = _
      rw [if_neg (by omega)]
theorem parse_64 {l : List UInt8} {v : Int} (h : Lib.parseIntB 64 l = .ok v) : I64 v := by
  rcases l with _ | ⟨c, r⟩
  · cases h
  · by_cases h43 : c.toNat = 43
    · obtain rfl : c = 43 := UInt8.toNat_inj.1 h43
      rw [Lib.parseIntB_plus] at h
      rcases e : Lib.parseUintB 64 r with u | _ | _ <;> rw [e] at h
      · replace h : (if 2 ^ (64 - 1) ≤ u then (Lib.NumEnd.range : Lib.NumEnd Int) else .ok (u : Int)) = .ok v := h
        split at h
        · cases h
        · injection h with h
          have e2 : (2 : Nat) ^ (64 - 1) = 9223372036854775808 := by decide
          exact ⟨by omega, by omega⟩
      · cases h
      · cases h
    · by_cases h45 : c.toNat = 45
      · obtain rfl : c = 45 := UInt8.toNat_inj.1 h45
        rw [Lib.parseIntB_minus] at h
        rcases e : Lib.parseUintB 64 r with u | _ | _ <;> rw [e] at h
        · replace h : (if 2 ^ (64 - 1) < u then (Lib.NumEnd.range : Lib.NumEnd Int) else .ok (-(u : Int))) = .ok v := h
          split at h
          · cases h
          · injection h with h
            have e2 : (2 : Nat) ^ (64 - 1) = 9223372036854775808 := by decide
            exact ⟨by omega, by omega⟩
        · cases h
        · cases h
      · rw [Lib.parseIntB_plain 64 c r h43 h45] at h
        rcases e : Lib.parseUintB 64 (c :: r) with u | _ | _ <;> rw [e] at h
        · replace h : (if 2 ^ (64 - 1) ≤ u then (Lib.NumEnd.range : Lib.NumEnd Int) else .ok (u : Int)) = .ok v := h
          split at h
          · cases h
          · injection h with h
            have e2 : (2 : Nat) ^ (64 - 1) = 9223372036854775808 := by decide
            exact ⟨by omega, by omega⟩
        · cases h
        · cases h

/-- What a reading of a text as a value must give. -/
def ReadsAs (l : List UInt8) (v : ValD) (ok : Bool) : Prop :=
  (ok = true → checkD v = true ∧ showL v = l ∧ I64 v.n) ∧ (ok = false → v = ⟨0, 0, ⟨#[]⟩⟩ ∧ ∀ u : ValD, checkD u = true → I64 u.n → showL u ≠ l)
theorem readsAs_yes {l : List UInt8} {v : ValD} (h1 : checkD v = true) (h2 : showL v = l) (h3 : I64 v.n) : ReadsAs l v true := ⟨fun _ => ⟨h1, h2, h3⟩, fun h => by cases h⟩
theorem readsAs_no {l : List UInt8} (h : ∀ u : ValD, checkD u = true → I64 u.n → showL u ≠ l) : ReadsAs l ⟨0, 0, ⟨#[]⟩⟩ false := ⟨fun h => by (cases h), fun _ => ⟨rfl, h⟩⟩
/-- Two readings of one text agree. -/
theorem ReadsAs.same {l : List UInt8} {v u : ValD} {a b : Bool} (h : ReadsAs l v a) (g : ReadsAs l u b) : v = u ∧ a = b := by
  rcases a with _ | _ <;> rcases b with _ | _
  · exact ⟨by rw [(h.2 rfl).1, (g.2 rfl).1], rfl⟩
  · obtain ⟨g1, g2, g3⟩ := g.1 rfl
    exact absurd g2 ((h.2 rfl).2 u g1 g3)
  · obtain ⟨g1, g2, g3⟩ := h.1 rfl
    exact absurd g2 ((g.2 rfl).2 v g1 g3)
  · obtain ⟨g1, g2, g3⟩ := h.1 rfl
    obtain ⟨k1, k2, k3⟩ := g.1 rfl
    exact ⟨showL_inj g1 k1 (g2.trans k2.symm), rfl⟩
theorem ReadsAs.shown {v u : ValD} {ok : Bool} (hc : checkD v = true) (hn : I64 v.n) (h : ReadsAs (showL v) u ok) : u = v ∧ ok = true := by
  rcases ok with _ | _
  · exact absurd rfl ((h.2 rfl).2 v hc hn)
  · obtain ⟨g1, g2, g3⟩ := h.1 rfl
    exact ⟨showL_inj g1 hc g2, rfl⟩
/-- No value of another kind is shown so. -/
theorem kind_of {l : List UInt8} {u : ValD} (hc : checkD u = true) (h : showL u = l) : u.kind = tagL l := by rw [← h, tag_show hc]
theorem show_num {l : List UInt8} {u : ValD} (hc : checkD u = true) (h : showL u = l) (ht : tagL l = 1) : u = ⟨1, u.n, ⟨#[]⟩⟩ ∧ l = Lib.itoa u.n := by
  have hk := (kind_of hc h).trans ht
  obtain ⟨k, n, s⟩ := u
  dsimp only at hk
  subst hk
  rcases checkD_cases hc with A | A | A | A | A
  · exact absurd A.1 (by simp)
  · dsimp only at A
    refine ⟨by rw [A.2], ?_⟩
    rw [← h, showL_int]
  · exact absurd A.1 (by simp)
  · exact absurd A.1 (by simp)
  · exact absurd A.1 (by simp)
theorem show_bad {l : List UInt8} {u : ValD} (hc : checkD u = true) (h : showL u = l) (ht : tagL l = 4) : u = ⟨4, u.n, ⟨#[]⟩⟩ ∧ l = 35 :: Lib.itoa u.n := by
  have hk := (kind_of hc h).trans ht
  obtain ⟨k, n, s⟩ := u
  dsimp only at hk
  subst hk
  rcases checkD_cases hc with A | A | A | A | A
  · exact absurd A.1 (by simp)
  · exact absurd A.1 (by simp)
  · exact absurd A.1 (by simp)
  · exact absurd A.1 (by simp)
  · dsimp only at A
    refine ⟨by rw [A.2], ?_⟩
    rw [← h, showL_bad]
theorem show_text {l : List UInt8} {u : ValD} (hc : checkD u = true) (h : showL u = l) (ht : tagL l = 3) : u = ⟨3, 0, u.s⟩ ∧ l = quoteL u.s.data.toList ∧ Lib.validD u.s.data.toList = true := by
  have hk := (kind_of hc h).trans ht
  obtain ⟨k, n, s⟩ := u
  dsimp only at hk
  subst hk
  rcases checkD_cases hc with A | A | A | A | A
  · exact absurd A.1 (by simp)
  · exact absurd A.1 (by simp)
  · exact absurd A.1 (by simp)
  · dsimp only at A
    refine ⟨by rw [A.2.1], ?_, A.2.2⟩
    rw [← h, showL_text]
  · exact absurd A.1 (by simp)

end Go.Proofs.YtnjdepojmnniaaaGreatDoor

/- Formulas as tokens: plain. -/
namespace Go.Proofs.YtnjdepojmnniaaaGreatDoor
open Go

/-- The class of a rune. -/
def clsR (r : Nat) : Nat :=
  if r = 9 ∨ r = 10 ∨ r = 13 ∨ r = 32 ∨ r = 160 ∨ r = 12288 then 3
  else if r = 95 ∨ r = 170 ∨ r = 181 ∨ r = 186 then 1
  else if 48 ≤ r ∧ r ≤ 57 then 2
  else if (97 ≤ r ∧ r ≤ 122) ∨ (65 ≤ r ∧ r ≤ 90) ∨ (192 ≤ r ∧ r ≤ 214) ∨ (216 ≤ r ∧ r ≤ 246) ∨ (248 ≤ r ∧ r ≤ 591) ∨ (913 ≤ r ∧ r ≤ 929) ∨ (931 ≤ r ∧ r ≤ 937) ∨ (945 ≤ r ∧ r ≤ 969) ∨ (1040 ≤ r ∧ r ≤ 1103) ∨ (19968 ≤ r ∧ r ≤ 40959) then 1
  else 0
/-- The class of the piece ahead. -/
def clsL (l : List UInt8) : Nat := clsR (Lib.decodeL l).1
def wid (l : List UInt8) : Nat := (Lib.decodeL l).2
theorem wid_pos (l : List UInt8) : 1 ≤ wid l := Lib.decodeL_width l
theorem wid_le {l : List UInt8} (h : l ≠ []) : wid l ≤ l.length := Lib.decodeL_le l h
theorem drop_lt {l : List UInt8} (h : l ≠ []) {k : Nat} (hk : 1 ≤ k) : (l.drop k).length < l.length := by
  have := List.length_pos_iff.2 h
  rw [List.length_drop]
  omega
/-- The bytes of the pieces ahead whose class is a or b. -/
def runL (a b : Nat) (l : List UInt8) : Nat :=
  if h : l = [] then 0 else if clsL l = a ∨ clsL l = b then wid l + runL a b (l.drop (wid l)) else 0
termination_by l.length
decreasing_by exact drop_lt h (wid_pos l)
theorem runL_nil (a b : Nat) : runL a b [] = 0 := by rw [runL.eq_def]; simp
theorem runL_in {a b : Nat} {l : List UInt8} (h : l ≠ []) (hc : clsL l = a ∨ clsL l = b) : runL a b l = wid l + runL a b (l.drop (wid l)) := by rw [runL.eq_def, dif_neg h, if_pos hc]
theorem runL_out {a b : Nat} {l : List UInt8} (hc : ¬ (clsL l = a ∨ clsL l = b)) : runL a b l = 0 := by
  rw [runL.eq_def]
  split
  · rfl
  · first | rfl | rw [if_neg hc]
theorem runL_le (a b : Nat) : ∀ (n : Nat) (l : List UInt8), l.length ≤ n → runL a b l ≤ l.length
  | 0, l, h => by
    obtain rfl : l = [] := List.eq_nil_of_length_eq_zero (by omega)
    rw [runL_nil]; exact Nat.le_refl _
  | n + 1, l, h => by
    by_cases hl : l = []
    · rw [hl, runL_nil]; exact Nat.zero_le _
    · by_cases hc : clsL l = a ∨ clsL l = b
      · rw [runL_in hl hc]
        have h1 := wid_le hl
        have h2 := wid_pos l
        have := runL_le a b n (l.drop (wid l)) (by rw [List.length_drop]; omega)
        rw [List.length_drop] at this
        omega
      · rw [runL_out hc]; exact Nat.zero_le _
/-- The number that digits spell. -/
def decV (l : List UInt8) : Nat := l.foldl (fun u c => u * 10 + (c.toNat - 48)) 0
structure TokD where
  kind : Int
  s : List UInt8
  n : Int
  at_ : Nat
def signs : List UInt8 := [43, 45, 42, 47, 37, 40, 41, 44, 61, 60, 62, 38, 124, 33]
/-- How long the sign ahead is; 0: there is none. -/
def signL : List UInt8 → Nat
  | [] => 0
  | c :: t => if (c = 60 ∨ c = 62 ∨ c = 33) ∧ t.head? = some 61 then 2 else if signs.contains c then 1 else 0
/-- How many runes a text has. -/
def runesL (l : List UInt8) : Nat := (pieces l).length
/-- The token ahead (its place is not told), and the bytes that it takes. -/
def oneD (l : List UInt8) : Option (TokD × Nat) :=
  if clsL l = 2 then (if decV (l.take (runL 2 2 l)) ≤ 9223372036854775807 then some (⟨1, [], decV (l.take (runL 2 2 l)), 0⟩, runL 2 2 l) else none)
  else if clsL l = 1 then (if runL 1 2 l ≤ 24 then some (⟨3, l.take (runL 1 2 l), 0, 0⟩, runL 1 2 l) else none)
  else if l.head? = some 34 then match unqL l with
    | none => none
    | some (t, k) => if runesL t ≤ 100 then some (⟨2, t, 0, 0⟩, k) else none
  else if signL l = 0 then none else some (⟨4, l.take (signL l), 0, 0⟩, signL l)
/-- The tokens of a text whose first byte has the place p; or the place of the first wrong one. -/
def lexL (l : List UInt8) (p : Nat) : Except Nat (List TokD) :=
  if h : l = [] then .ok [⟨0, [], 0, p⟩] else if clsL l = 3 then lexL (l.drop (wid l)) (p + wid l) else match oneD l with
    | none => .error p
    | some (t, k) => match lexL (l.drop (k - 1 + 1)) (p + (k - 1 + 1)) with
      | .error q => .error q
      | .ok ts => .ok ({ t with at_ := p } :: ts)
termination_by l.length
decreasing_by
  · exact drop_lt h (wid_pos l)
  · exact drop_lt h (by omega)
theorem lexL_nil (p : Nat) : lexL [] p = .ok [⟨0, [], 0, p⟩] := by rw [lexL.eq_def]; simp
theorem lexL_space {l : List UInt8} (h : l ≠ []) (hc : clsL l = 3) (p : Nat) : lexL l p = lexL (l.drop (wid l)) (p + wid l) := by rw [lexL.eq_def, dif_neg h, if_pos hc]
theorem lexL_bad {l : List UInt8} (h : l ≠ []) (hc : clsL l ≠ 3) (ho : oneD l = none) (p : Nat) : lexL l p = .error p := by
  rw [lexL.eq_def, dif_neg h, if_neg hc, ho]
theorem unqGo_pos : ∀ (f : Nat) (l acc : List UInt8) (p : Nat) (t : List UInt8) (q : Nat), unqGo f l acc p = some (t, q) → p < q ∧ q ≤ p + l.length
  | 0, _, _, _, _, _, h => by cases h
  | f + 1, l, acc, p, t, q, h => by
    rw [unqGo_succ] at h
    by_cases hne : l = []
    · rw [if_pos hne] at h; cases h
    · have hw := Lib.decodeL_width l
      have hle := Lib.decodeL_le l hne
      have hpos := List.length_pos_iff.2 hne
      rw [if_neg hne] at h
      split at h
      · injection h with h
        injection h with _ h
        omega
      · split at h
        · split at h
          · cases h
          · have he := escL_le l
            have := unqGo_pos f _ _ _ t q h
            rw [List.length_drop] at this
            omega
        · split at h
          · cases h
          · have := unqGo_pos f _ _ _ t q h
            rw [List.length_drop] at this
            omega
theorem unqL_pos {l t : List UInt8} {q : Nat} (h : unqL l = some (t, q)) : 2 ≤ q ∧ q ≤ l.length := by
  rcases l with _ | ⟨b, r⟩
  · cases h
  · replace h : (if b.toNat = 34 then unqGo (r.length + 1) r [] 1 else none) = some (t, q) := h
    split at h
    · have := unqGo_pos _ _ _ _ _ _ h
      simp
      omega
    · cases h
theorem signL_cons (c : UInt8) (t : List UInt8) : signL (c :: t) = if (c = 60 ∨ c = 62 ∨ c = 33) ∧ t.head? = some 61 then 2 else if signs.contains c then 1 else 0 := rfl
theorem signL_le (l : List UInt8) : signL l ≤ l.length := by
  rcases l with _ | ⟨c, t⟩
  · simp [signL]
  · rw [signL_cons]
    split
    · rename_i h
      rcases t with _ | ⟨d, t⟩
      · simp at h
      · simp
    · split <;> simp
theorem oneD_pos {l : List UInt8} (hl : l ≠ []) {t : TokD} {k : Nat} (h : oneD l = some (t, k)) : 1 ≤ k ∧ k ≤ l.length := by
  have hr := fun a b => runL_le a b l.length l (Nat.le_refl _)
  unfold oneD at h
  split at h
  · rename_i hc
    split at h
    · injection h with h
      injection h with _ h
      have h2 := runL_in (a := 2) (b := 2) hl (.inl hc)
      have h3 := wid_pos l
      have h4 := hr 2 2
      omega
    · cases h
  · split at h
    · rename_i hc
      split at h
      · injection h with h
        injection h with _ h
        have h2 := runL_in (a := 1) (b := 2) hl (.inl hc)
        have h3 := wid_pos l
        have h4 := hr 1 2
        omega
      · cases h
    · split at h
      · rcases hu : unqL l with _ | ⟨u, q⟩
        · rw [hu] at h; cases h
        · rw [hu] at h
          dsimp only at h
          split at h
          · injection h with h
            injection h with _ h
            have := unqL_pos hu
            omega
          · cases h
      · split at h
        · cases h
        · injection h with h
          injection h with _ h
          have := signL_le l
          omega
theorem lexL_tok {l : List UInt8} (h : l ≠ []) (hc : clsL l ≠ 3) {t : TokD} {k : Nat} (ho : oneD l = some (t, k)) (p : Nat) : lexL l p = match lexL (l.drop k) (p + k) with
      | .error q => .error q
      | .ok ts => .ok ({ t with at_ := p } :: ts) := by
  have hk := (oneD_pos h ho).1
  rw [lexL.eq_def, dif_neg h, if_neg hc, ho]
  dsimp only
  rw [show k - 1 + 1 = k by omega]

end Go.Proofs.YtnjdepojmnniaaaGreatDoor
