/- Joined of LxM, LxN, LxNm, NdA, NdE. -/
import Derived.Test.YtgjiahilbmeaeaaGreatDoorR01
import Derived.Test.YtgjiahilbmeaeaaGreatDoorR02
import Derived.Test.YtgjiahilbmeaeaaGreatDoorR00
import Derived.WalkMore
import Derived.Test.YtgjiahilbmeaeaaGreatDoorQ02
import Derived.Test.YtgjiahilbmeaeaaGreatDoorQ01
set_option maxRecDepth 100000
set_option maxHeartbeats 8000000
set_option linter.unusedSimpArgs false
set_option linter.unusedVariables false
/- The token ahead, as the program finds it. -/
namespace Go.Proofs.YtgjiahilbmeaeaaGreatDoor
open Go Go.RowKit
def tokC (t : TokD) : List Value := [.int .i64 t.kind, .string (str t.s), .int .i64 t.n, .int .i64 t.at_]
def oneV : Option (TokD × Nat) → Value
 | none => .tuple #[.agg #[.int .i64 0, .string ⟨#[]⟩, .int .i64 0, .int .i64 0], .int .i64 0]
 | some (t, k) => .tuple #[.agg #[.int .i64 t.kind, .string (str t.s), .int .i64 t.n, .int .i64 t.at_], .int .i64 k]
theorem blk4 {w : World} {b : Nat} {x0 x1 x2 x3 : Value} {t : TypeId} (h : w.heap[b]? = some (.cells #[x0, x1, x2, x3] t (0, 0))) :
 (w.cell? ⟨b, 0, none⟩ = some x0 ∧ w.cell? ⟨b, 1, none⟩ = some x1 ∧ w.cell? ⟨b, 2, none⟩ = some x2 ∧ w.cell? ⟨b, 3, none⟩ = some x3) ∧ ∀ i, w.frozen? ⟨b, i, none⟩ = false :=
 ⟨⟨cell_of_block h 0, cell_of_block h 1, cell_of_block h 2, cell_of_block h 3⟩, fun i => frozen_of_row w b i _ _ h⟩
theorem str_take (s : ByteArray) (m : Nat) : s.extract 0 m = str (s.data.toList.take m) ∧ (s.extract 0 m).data.toList = s.data.toList.take m := by
 have h : (s.extract 0 m).data.toList = s.data.toList.take m := by
  have := extract_str s 0 m
  rw [Nat.zero_add, List.drop_zero] at this
  rw [this]; rfl
 refine ⟨?_, h⟩
 refine ByteArray.ext (Array.toList_inj.1 ?_)
 rw [h]; rfl
theorem lxOne_num (s : ByteArray) (w : World) (hE : Errs w) (h0 : 0 < s.size) (hs : s.size ≤ 1000000) (hc : clsL s.data.toList = 2) :
 Calls Tryz.prog 140 #[.string s, .int .i64 2] w fun e w' => e = .returned (oneV (oneD s.data.toList)) ∧ Keeps [] w w' := by
 have hl : s.data.toList.length = s.size := Array.length_toList
 have hne : s.data.toList ≠ [] := by intro h; rw [h] at hl; simp at hl; omega
 obtain ⟨m, hm⟩ : ∃ m, runL 2 2 s.data.toList = m := ⟨_, rfl⟩
 have hm1 : 1 ≤ m := by rw [← hm, runL_in hne (.inl hc)]; have := wid_pos s.data.toList; omega
 have hm2 : m ≤ s.size := by rw [← hm, ← hl]; exact runL_le 2 2 _ _ (Nat.le_refl _)
 have HD : Hid (oneD s.data.toList = if decV (s.data.toList.take m) ≤ 9223372036854775807 then some (⟨1, [], decV (s.data.toList.take m), 0⟩, m) else none) := by
  show _ = _
  unfold oneD
  rw [if_pos hc, hm]
 have HP : Hid (_ ∧ _) := parse_digits (l := s.data.toList.take m) (by intro h; have := congrArg List.length h; rw [List.length_take, List.length_nil, hl] at this; omega) (by rw [← hm]; exact run_digits _ _ (Nat.le_refl _))
 have HE := hid hE
 have HR := hid (fun w1 => lxRun_any s 2 2 w1 hs (by decide) (by decide))
 rw [hm] at HR
 have hmI : (m : Int) ≤ (s.size : Int) := by omega
 have HX := hid (str_take s m)
 clear hE hl hne hm hc
 go_enter Tryz.func140, Tryz.ntmps140
 go_wp2_with fail
 refine (HR.out _).mono ?_
 rintro e w2 ⟨rfl, hk⟩
 have K2 : Hid (Keeps [] w w2) := Keeps.trans (by exact Keeps.K) hk (fun _ _ h => h)
 have HB2 : Hid (w2.heap[w.heap.size]? = some (.cells #[.int .i64 0, .string ⟨#[]⟩, .int .i64 0, .int .i64 0] 151 (0, 0))) := (hk.block _ (by simp) (by simp)).trans (heap_alloc_new _ _)
 have z2 : w.heap.size < w2.heap.size := by have := hk.size; simp at this; omega
 clear hk
 go_wp2_with fail
 refine (cParse_any _ _ (HE.out.k (K2.out)) (by rw [ByteArray.size_extract]; omega)).mono ?_
 rintro e w3 ⟨hk3, he⟩
 have K3 : Hid (Keeps [] w w3) := K2.out.trans hk3 (fun _ _ h => h)
 have HB3 : Hid (w3.heap[w.heap.size]? = some (.cells #[.int .i64 0, .string ⟨#[]⟩, .int .i64 0, .int .i64 0] 151 (0, 0))) := (hk3.block _ z2 (by simp)).trans HB2.out
 obtain ⟨⟨r0, r1, r2, r3⟩, f0⟩ := blk4 HB3.out
 rw [HX.out.2] at he
 clear hk3
 rcases he with ⟨n, hn, rfl⟩ | ⟨hn, z, t, p, rfl⟩
 ·have hle : decV (s.data.toList.take m) ≤ 9223372036854775807 := Nat.le_of_not_lt fun h => HP.out.2 (by omega) n hn
  have HN : Hid (n = (decV (s.data.toList.take m) : Int)) := by
   have := HP.out.1 hle
   rw [hn] at this
   injection this
  have HO := HD.out
  rw [if_pos hle] at HO
  have HO := hid HO
  clear hle hn
  go_wp2_with fail
  refine bodyPost_ret (v := .tuple #[.agg #[.int .i64 1, .string ⟨#[]⟩, .int .i64 n, .int .i64 0], .int .i64 m]) (by simp [results, Tryz.results140, go_sem, r0, r1, r2, r3]) rfl ⟨?_, by have kk := K3.out; exact Keeps.K⟩
  rw [HO.out, HN.out]
  rfl
 ·have hle : ¬ decV (s.data.toList.take m) ≤ 9223372036854775807 := fun h => hn _ (HP.out.1 h)
  have HO := HD.out
  rw [if_neg hle] at HO
  have HO := hid HO
  clear hle hn
  go_wp2_with fail
  refine bodyPost_ret (v := .tuple #[.agg #[.int .i64 0, .string ⟨#[]⟩, .int .i64 0, .int .i64 0], .int .i64 0]) (by simp [results, Tryz.results140, go_sem, r0, r1, r2, r3]) rfl ⟨?_, by have kk := K3.out; exact Keeps.K⟩
  rw [HO.out]
  rfl
theorem lxOne_name (s : ByteArray) (w : World) (h0 : 0 < s.size) (hs : s.size ≤ 1000000) (hc : clsL s.data.toList = 1) :
 Calls Tryz.prog 140 #[.string s, .int .i64 1] w fun e w' => e = .returned (oneV (oneD s.data.toList)) ∧ Keeps [] w w' := by
 have hl : s.data.toList.length = s.size := Array.length_toList
 have hne : s.data.toList ≠ [] := by intro h; rw [h] at hl; simp at hl; omega
 obtain ⟨m, hm⟩ : ∃ m, runL 1 2 s.data.toList = m := ⟨_, rfl⟩
 have hm2 : m ≤ s.size := by rw [← hm, ← hl]; exact runL_le 1 2 _ _ (Nat.le_refl _)
 have HD : Hid (oneD s.data.toList = if m ≤ 24 then some (⟨3, s.data.toList.take m, 0, 0⟩, m) else none) := by
  show _ = _
  unfold oneD
  rw [if_neg (by rw [hc]; decide), if_pos hc, hm]
 have HR := hid (fun w1 => lxRun_any s 1 2 w1 hs (by decide) (by decide))
 rw [hm] at HR
 have hmI : (m : Int) ≤ (s.size : Int) := by omega
 have HX := hid (str_take s m)
 clear hl hne hm hc
 go_enter Tryz.func140, Tryz.ntmps140
 go_wp2_with fail
 refine (HR.out _).mono ?_
 rintro e w2 ⟨rfl, hk⟩
 have K2 : Hid (Keeps [] w w2) := Keeps.trans (by exact Keeps.K) hk (fun _ _ h => h)
 have HB2 : Hid (w2.heap[w.heap.size]? = some (.cells #[.int .i64 0, .string ⟨#[]⟩, .int .i64 0, .int .i64 0] 151 (0, 0))) := (hk.block _ (by simp) (by simp)).trans (heap_alloc_new _ _)
 obtain ⟨⟨r0, r1, r2, r3⟩, f0⟩ := blk4 HB2.out
 clear hk
 by_cases hle : m ≤ 24
 ·have HO := HD.out
  rw [if_pos hle] at HO
  have HO := hid HO
  have hI : (m : Int) ≤ 24 := by omega
  clear hle
  go_wp2_with fail
  refine bodyPost_ret (v := .tuple #[.agg #[.int .i64 3, .string (s.extract 0 m), .int .i64 0, .int .i64 0], .int .i64 m]) (by simp [results, Tryz.results140, go_sem, r0, r1, r2, r3]) rfl ⟨?_, by have kk := K2.out; exact Keeps.K⟩
  rw [HO.out, HX.out.1]
  rfl
 ·have HO := HD.out
  rw [if_neg hle] at HO
  have HO := hid HO
  have hI : 24 < (m : Int) := by omega
  clear hle
  go_wp2_with fail
  refine bodyPost_ret (v := .tuple #[.agg #[.int .i64 0, .string ⟨#[]⟩, .int .i64 0, .int .i64 0], .int .i64 0]) (by simp [results, Tryz.results140, go_sem, r0, r1, r2, r3]) rfl ⟨?_, by have kk := K2.out; exact Keeps.K⟩
  rw [HO.out]
  rfl
theorem unqGo_len : ∀ (f : Nat) (l acc : List UInt8) (p : Nat) (t : List UInt8) (q : Nat), unqGo f l acc p = some (t, q) → t.length + 4 * p ≤ acc.length + 4 * q
 | 0, _, _, _, _, _, h => by cases h
 | f + 1, l, acc, p, t, q, h => by
   have hpos := unqGo_pos _ _ _ _ _ _ h
   rw [unqGo_succ] at h
   by_cases hne : l = []
   ·rw [if_pos hne] at h; cases h
   ·have hw := Lib.decodeL_width l
    rw [if_neg hne] at h
    split at h
    ·injection h with h
     injection h with h1 h2
     subst h1
     omega
    ·split at h
     ·split at h
      ·cases h
      ·have ih := unqGo_len f _ _ _ t q h
       have he := enc_len4 (escL l).1
       rw [List.length_append] at ih
       omega
     ·split at h
      ·cases h
      ·have ih := unqGo_len f _ _ _ t q h
       have he := enc_len4 (Lib.decodeL l).1
       rw [List.length_append] at ih
       omega
theorem unqL_len {l t : List UInt8} {q : Nat} (h : unqL l = some (t, q)) : t.length ≤ 4 * q := by
 rcases l with _ | ⟨b, r⟩
 ·cases h
 ·rw [unqL_cons] at h
  split at h
  ·have := unqGo_len _ _ _ _ _ _ h
   simp at this
   omega
  ·cases h
theorem lxOne_text (s : ByteArray) (c : Nat) (w : World) (hT : Tabs w) (h0 : 0 < s.size) (hs : s.size ≤ 1000000) (hc : clsL s.data.toList = c) (hc1 : c ≠ 1) (hc2 : c ≠ 2) (h34 : s.data.toList.head? = some 34) :
 Calls Tryz.prog 140 #[.string s, .int .i64 c] w fun e w' => e = .returned (oneV (oneD s.data.toList)) ∧ Keeps [] w w' := by
 have hl : s.data.toList.length = s.size := Array.length_toList
 have hc0 : s[0]'h0 = 34 := by
  have := byte_drop s 0 h0
  rw [List.drop_zero] at this
  rw [this] at h34
  simpa using h34
 have HD : Hid (oneD s.data.toList = match unqL s.data.toList with | none => none | some (t, k) => if runesL t ≤ 100 then some (⟨2, t, 0, 0⟩, k) else none) := by
  show _ = _
  unfold oneD
  rw [if_neg (by rw [hc]; exact hc2), if_neg (by rw [hc]; exact hc1), if_pos h34]
  rfl
 have d1 : ((c : Int) == 2) = false := by simp; omega
 have d2 : ((c : Int) == 1) = false := by simp; omega
 have HS : Hid (∀ t k, unqL s.data.toList = some (t, k) → t.length ≤ 4000000) := by
  intro t k h
  have h2 := unqL_len h
  have h3 := unqL_pos h
  omega
 have HT := hid hT
 have hsI : (0 : Int) < (s.size : Int) := by omega
 clear hl hc hc1 hc2 h34 hT
 go_enter Tryz.func140, Tryz.ntmps140
 go_wp2_with fail
 refine (unquoted_any s _ (HT.out.k (by exact Keeps.K)) hs).mono ?_
 rintro e w2 ⟨rfl, hk⟩
 have K2 : Hid (Keeps [] w w2) := Keeps.trans (by exact Keeps.K) hk (fun _ _ h => h)
 have HB2 : Hid (w2.heap[w.heap.size]? = some (.cells #[.int .i64 0, .string ⟨#[]⟩, .int .i64 0, .int .i64 0] 151 (0, 0))) := (hk.block _ (by simp) (by simp)).trans (heap_alloc_new _ _)
 have z2 : w.heap.size < w2.heap.size := by have := hk.size; simp at this; omega
 obtain ⟨⟨r0, r1, r2, r3⟩, f0⟩ := blk4 HB2.out
 clear hk
 rcases hu : unqL s.data.toList with _ | ⟨t, k⟩
 ·rw [hu] at HD
  unfold unqV
  go_wp2_with fail
  refine bodyPost_ret (v := .tuple #[.agg #[.int .i64 0, .string ⟨#[]⟩, .int .i64 0, .int .i64 0], .int .i64 0]) (by simp [results, Tryz.results140, go_sem, r0, r1, r2, r3]) rfl ⟨?_, by have kk := K2.out; exact Keeps.K⟩
  rw [HD.out]
  rfl
 ·have HL := hid (HS.out t k hu)
  have HRC : Hid (Lib.runeCount (str t) = runesL t) := (pieces_count (str t)).symm
  rw [hu] at HD
  clear hu r0 r1 r2 r3 f0
  unfold unqV
  dsimp only
  go_wp2_with fail
  refine (ruCount_any (str t) _ (by show t.length < _; have := HL.out; omega)).mono ?_
  rintro e w3 ⟨rfl, hk3⟩
  have K3 : Hid (Keeps [] w w3) := K2.out.trans (Keeps.trans (by exact Keeps.K) hk3 (fun _ _ h => h)) (fun _ _ h => h)
  have HB3 : Hid (w3.heap[w.heap.size]? = some (.cells #[.int .i64 0, .string ⟨#[]⟩, .int .i64 0, .int .i64 0] 151 (0, 0))) := (hk3.block _ z2 (by simp)).trans HB2.out
  obtain ⟨⟨r0, r1, r2, r3⟩, f0⟩ := blk4 HB3.out
  rw [HRC.out]
  clear hk3
  by_cases hle : runesL t ≤ 100
  ·have HO := HD.out
   try dsimp only at HO
   rw [if_pos hle] at HO
   have HO := hid HO
   have hI : (runesL t : Int) ≤ 100 := by omega
   clear hle
   go_wp2_with fail
   refine bodyPost_ret (v := .tuple #[.agg #[.int .i64 2, .string (str t), .int .i64 0, .int .i64 0], .int .i64 k]) (by simp [results, Tryz.results140, go_sem, r0, r1, r2, r3]) rfl ⟨?_, by have kk := K3.out; exact Keeps.K⟩
   rw [HO.out]
   rfl
  ·have HO := HD.out
   try dsimp only at HO
   rw [if_neg hle] at HO
   have HO := hid HO
   have hI : 100 < (runesL t : Int) := by omega
   clear hle
   go_wp2_with fail
   refine bodyPost_ret (v := .tuple #[.agg #[.int .i64 0, .string ⟨#[]⟩, .int .i64 0, .int .i64 0], .int .i64 0]) (by simp [results, Tryz.results140, go_sem, r0, r1, r2, r3]) rfl ⟨?_, by have kk := K3.out; exact Keeps.K⟩
   rw [HO.out]
   rfl
def sg (j : Nat) : List UInt8 := [[60, 61], [62, 61], [33, 61]].getD j []
theorem sign_two {c : UInt8} {t : List UInt8} {j : Nat} (hj : j < 3) (h : Lib.hasPrefix (c :: t) (sg j) = true) : signL (c :: t) = 2 ∧ (c :: t).take 2 = sg j := by
 rcases t with _ | ⟨d, t⟩
 ·obtain rfl | rfl | rfl : j = 0 ∨ j = 1 ∨ j = 2 := by omega
  all_goals simp [Lib.hasPrefix, sg] at h
 ·rw [signL_cons]
  obtain rfl | rfl | rfl : j = 0 ∨ j = 1 ∨ j = 2 := by omega
  all_goals
   simp [Lib.hasPrefix, sg, List.isPrefixOf] at h
   obtain ⟨h1, h2⟩ := h
   subst h1; subst h2
   exact ⟨rfl, rfl⟩
theorem sign_not2 {c : UInt8} {t : List UInt8} (h : ∀ j, j < 3 → Lib.hasPrefix (c :: t) (sg j) = false) : signL (c :: t) = if signs.contains c then 1 else 0 := by
 rw [signL_cons, if_neg]
 rintro ⟨h1, h2⟩
 rcases t with _ | ⟨d, t⟩
 ·cases h2
 ·have hd : d = 61 := by simpa using h2
  subst hd
  rcases h1 with rfl | rfl | rfl
  ·have := h 0 (by decide); simp [Lib.hasPrefix, sg, List.isPrefixOf] at this
  ·have := h 1 (by decide); simp [Lib.hasPrefix, sg, List.isPrefixOf] at this
  ·have := h 2 (by decide); simp [Lib.hasPrefix, sg, List.isPrefixOf] at this
theorem sign_fin : ∀ c : Fin 256, (if signs.contains (UInt8.ofNat c.val) then 0 ≤ Lib.indexByte signs (UInt8.ofNat c.val) else Lib.indexByte signs (UInt8.ofNat c.val) < 0) := by decide +kernel
theorem sign_idx (c : UInt8) : (if signs.contains c then 0 ≤ Lib.indexByte signs c else Lib.indexByte signs c < 0) := by
 have h := sign_fin ⟨c.toNat, c.toNat_lt⟩
 have e : UInt8.ofNat c.toNat = c := UInt8.toNat_inj.1 (by rw [ofNat_toNat _ c.toNat_lt])
 simp only [e] at h
 exact h
theorem lxOne_sign (s : ByteArray) (c : Nat) (w : World) (h0 : 0 < s.size) (hs : s.size ≤ 1000000) (hc : clsL s.data.toList = c) (hc1 : c ≠ 1) (hc2 : c ≠ 2) (h34 : s.data.toList.head? ≠ some 34) :
 Calls Tryz.prog 140 #[.string s, .int .i64 c] w fun e w' => e = .returned (oneV (oneD s.data.toList)) ∧ Keeps [] w w' := by
 have ix0 : ∀ w : World, (Instr.index 153 (.agg #[.string ⟨#[60, 61]⟩, .string ⟨#[62, 61]⟩, .string ⟨#[33, 61]⟩]) (.int .i64 0)).run Tryz.prog w = .ok (.string ⟨#[60, 61]⟩) w := fun _ => by kernel_rfl
 have ix1 : ∀ w : World, (Instr.index 153 (.agg #[.string ⟨#[60, 61]⟩, .string ⟨#[62, 61]⟩, .string ⟨#[33, 61]⟩]) (.int .i64 1)).run Tryz.prog w = .ok (.string ⟨#[62, 61]⟩) w := fun _ => by kernel_rfl
 have ix2 : ∀ w : World, (Instr.index 153 (.agg #[.string ⟨#[60, 61]⟩, .string ⟨#[62, 61]⟩, .string ⟨#[33, 61]⟩]) (.int .i64 2)).run Tryz.prog w = .ok (.string ⟨#[33, 61]⟩) w := fun _ => by kernel_rfl
 have hb := byte_drop s 0 h0
 rw [List.drop_zero] at hb
 obtain ⟨b, hbb⟩ : ∃ b, s[0]'h0 = b := ⟨_, rfl⟩
 obtain ⟨t, ht⟩ : ∃ t, s.data.toList = b :: t := by
  rcases e : s.data.toList with _ | ⟨x, t⟩
  ·rw [e] at hb; cases hb
  ·rw [e] at hb
   have hx : x = b := by rw [← hbb]; simpa using hb
   exact ⟨t, by rw [hx]⟩
 have hb34 : ((b.toNat : Int) == 34) = false := by
  rw [ht] at h34
  simp
  intro h
  exact h34 (by rw [show b = 34 from UInt8.toNat_inj.1 (by show b.toNat = 34; omega)]; rfl)
 have HD : Hid (oneD s.data.toList = if signL (b :: t) = 0 then none else some (⟨4, (b :: t).take (signL (b :: t)), 0, 0⟩, signL (b :: t))) := by
  show _ = _
  unfold oneD
  rw [if_neg (by rw [hc]; exact hc2), if_neg (by rw [hc]; exact hc1), if_neg h34, ht]
 have d1 : ((c : Int) == 2) = false := by simp; omega
 have d2 : ((c : Int) == 1) = false := by simp; omega
 have HX := hid (str_take s 1)
 have HTT := hid ht
 have hsI : (0 : Int) < (s.size : Int) := by omega
 have hsI2 : (1 : Int) ≤ (s.size : Int) := by omega
 clear hb hc hc1 hc2 h34 ht
 go_enter Tryz.func140, Tryz.ntmps140
 go_wp2_with fail
 go_loopw [66] (fun i wr => ∃ k : Nat, k ≤ 3 ∧ i = .int .i64 k ∧ Hid ((∀ j, j < k → Lib.hasPrefix (b :: t) (sg j) = false) ∧ Keeps [] w wr ∧ wr.heap[w.heap.size]? = some (.cells #[.int .i64 0, .string ⟨#[]⟩, .int .i64 0, .int .i64 0] 151 (0, 0)))) (fun i _ => 3 - (intOf i).toNat)
 case atStart => exact ⟨0, Nat.zero_le _, rfl, fun j h => by omega, by exact Keeps.K, heap_alloc_new _ _⟩
 case round =>
  obtain ⟨k, hk, rfl, HW⟩ := hrel
  obtain ⟨⟨r0, r1, r2, r3⟩, f0⟩ := blk4 HW.out.2.2
  by_cases hlt : k < 3
  ·obtain rfl | rfl | rfl : k = 0 ∨ k = 1 ∨ k = 2 := by omega
   ·clear ix1 ix2
    go_wp2_with fail
    refine (Tryz.strings_HasPrefix _ _ _).mono ?_
    rintro e w2 ⟨rfl, rfl⟩
    rw [HTT.out]
    rw [show (⟨#[60, 61]⟩ : ByteArray).data.toList = sg 0 from rfl]
    rcases hp : Lib.hasPrefix (b :: t) (sg 0) with _ | _
    ·have HN : Hid (∀ j, j < 1 → Lib.hasPrefix (b :: t) (sg j) = false) := fun j hj => by rcases Nat.lt_or_ge j 0 with h | h; exact HW.out.1 j h; obtain rfl : j = 0 := (by omega); exact hp
     clear hp
     go_wp2_with fail
     go_roundw
     case rel => exact ⟨1, by decide, by go_num, HN.out, HW.out.2.1, HW.out.2.2⟩
     case measure => simp [intOf]
    ·have HO := HD.out
     have h2 := sign_two (j := 0) (by decide) hp
     rw [h2.1, if_neg (by decide), h2.2] at HO
     have HO := hid HO
     clear hp h2
     go_wp2_with fail
     refine bodyPost_ret (v := .tuple #[.agg #[.int .i64 4, .string ⟨#[60, 61]⟩, .int .i64 0, .int .i64 0], .int .i64 2]) (by simp [results, Tryz.results140, go_sem, r0, r1, r2, r3]) rfl ⟨?_, by have kk := HW.out.2.1; exact Keeps.K⟩
     rw [HO.out]
     rfl
   ·clear ix0 ix2
    go_wp2_with fail
    refine (Tryz.strings_HasPrefix _ _ _).mono ?_
    rintro e w2 ⟨rfl, rfl⟩
    rw [HTT.out]
    rw [show (⟨#[62, 61]⟩ : ByteArray).data.toList = sg 1 from rfl]
    rcases hp : Lib.hasPrefix (b :: t) (sg 1) with _ | _
    ·have HN : Hid (∀ j, j < 2 → Lib.hasPrefix (b :: t) (sg j) = false) := fun j hj => by rcases Nat.lt_or_ge j 1 with h | h; exact HW.out.1 j h; obtain rfl : j = 1 := (by omega); exact hp
     clear hp
     go_wp2_with fail
     go_roundw
     case rel => exact ⟨2, by decide, by go_num, HN.out, HW.out.2.1, HW.out.2.2⟩
     case measure => simp [intOf]
    ·have HO := HD.out
     have h2 := sign_two (j := 1) (by decide) hp
     rw [h2.1, if_neg (by decide), h2.2] at HO
     have HO := hid HO
     clear hp h2
     go_wp2_with fail
     refine bodyPost_ret (v := .tuple #[.agg #[.int .i64 4, .string ⟨#[62, 61]⟩, .int .i64 0, .int .i64 0], .int .i64 2]) (by simp [results, Tryz.results140, go_sem, r0, r1, r2, r3]) rfl ⟨?_, by have kk := HW.out.2.1; exact Keeps.K⟩
     rw [HO.out]
     rfl
   ·clear ix0 ix1
    go_wp2_with fail
    refine (Tryz.strings_HasPrefix _ _ _).mono ?_
    rintro e w2 ⟨rfl, rfl⟩
    rw [HTT.out]
    rw [show (⟨#[33, 61]⟩ : ByteArray).data.toList = sg 2 from rfl]
    rcases hp : Lib.hasPrefix (b :: t) (sg 2) with _ | _
    ·have HN : Hid (∀ j, j < 3 → Lib.hasPrefix (b :: t) (sg j) = false) := fun j hj => by rcases Nat.lt_or_ge j 2 with h | h; exact HW.out.1 j h; obtain rfl : j = 2 := (by omega); exact hp
     clear hp
     go_wp2_with fail
     go_roundw
     case rel => exact ⟨3, by decide, by go_num, HN.out, HW.out.2.1, HW.out.2.2⟩
     case measure => simp [intOf]
    ·have HO := HD.out
     have h2 := sign_two (j := 2) (by decide) hp
     rw [h2.1, if_neg (by decide), h2.2] at HO
     have HO := hid HO
     clear hp h2
     go_wp2_with fail
     refine bodyPost_ret (v := .tuple #[.agg #[.int .i64 4, .string ⟨#[33, 61]⟩, .int .i64 0, .int .i64 0], .int .i64 2]) (by simp [results, Tryz.results140, go_sem, r0, r1, r2, r3]) rfl ⟨?_, by have kk := HW.out.2.1; exact Keeps.K⟩
     rw [HO.out]
     rfl
  ·obtain rfl : k = 3 := by omega
   have h2 := sign_not2 HW.out.1
   have HO := HD.out
   rw [h2] at HO
   have hi := sign_idx b
   clear h2 ix0 ix1 ix2
   go_wp2_with fail
   refine (Tryz.strings_IndexByte _ _ _).mono ?_
   rintro e w2 ⟨rfl, rfl⟩
   rw [show ((b.toNat : Int)).toNat.toUInt8 = b from UInt8.toNat_inj.1 (by simp), show (⟨#[43, 45, 42, 47, 37, 40, 41, 44, 61, 60, 62, 38, 124, 33]⟩ : ByteArray).data.toList = signs from rfl]
   obtain ⟨x, hx⟩ : ∃ x, Lib.indexByte signs b = x := ⟨_, rfl⟩
   rw [hx] at hi ⊢
   clear hx
   rcases hb : signs.contains b with _ | _
   ·rw [hb] at hi HO
    have HO := hid HO
    have hx : x < 0 := hi
    clear hi hb
    go_wp2_with fail
    refine bodyPost_ret (v := .tuple #[.agg #[.int .i64 0, .string ⟨#[]⟩, .int .i64 0, .int .i64 0], .int .i64 0]) (by simp [results, Tryz.results140, go_sem, r0, r1, r2, r3]) rfl ⟨?_, by have kk := HW.out.2.1; exact Keeps.K⟩
    rw [HO.out]
    rfl
   ·rw [hb] at hi HO
    have HO := hid HO
    have hx : 0 ≤ x := hi
    clear hi hb
    go_wp2_with fail
    refine bodyPost_ret (v := .tuple #[.agg #[.int .i64 4, .string (s.extract 0 1), .int .i64 0, .int .i64 0], .int .i64 1]) (by simp [results, Tryz.results140, go_sem, r0, r1, r2, r3]) rfl ⟨?_, by have kk := HW.out.2.1; exact Keeps.K⟩
    rw [HO.out, HX.out.1, HTT.out]
    rfl
theorem lxOne_any (s : ByteArray) (c : Nat) (w : World) (hT : Tabs w) (hE : Errs w) (h0 : 0 < s.size) (hs : s.size ≤ 1000000) (hc : clsL s.data.toList = c) :
 Calls Tryz.prog 140 #[.string s, .int .i64 c] w fun e w' => e = .returned (oneV (oneD s.data.toList)) ∧ Keeps [] w w' := by
 by_cases h2 : c = 2
 ·subst h2; exact lxOne_num s w hE h0 hs hc
 ·by_cases h1 : c = 1
  ·subst h1; exact lxOne_name s w h0 hs hc
  ·by_cases h34 : s.data.toList.head? = some 34
   ·exact lxOne_text s c w hT h0 hs hc h1 h2 h34
   ·exact lxOne_sign s c w h0 hs hc h1 h2 h34
def tokL : Lay TokD where
 size := 4
 pos := by decide
 at_ _ _ cs t := cs = tokC t
 len := fun e => by rw [e]; rfl
 one := fun e u hu => by
  rw [e] at hu
  simp [tokC] at hu
  rcases hu with rfl | rfl | rfl | rfl <;> rfl
 keep := fun e _ _ => e
 mono := fun e _ => e
theorem Tryz.infoTok : (Tryz.prog.info? 151).map (fun i => (i.zero, i.size, i.bytes)) = some (some (.agg #[.int .i64 0, .string ⟨#[]⟩, .int .i64 0, .int .i64 0]), 4, 40) := by kernel_rfl
def lexR (L : List UInt8) : List TokD × Nat × Nat :=
 if 400 < L.length then ([], 400, 7) else match lexL L 0 with
  | .error p => ([], p, 5)
  | .ok ts => (ts, 0, 0)
def LexPost (L : List UInt8) (w : World) (e : Ending) (w' : World) : Prop :=
 ∃ v, e = .returned (.tuple #[v, .int .i64 (lexR L).2.1, .int .i64 (lexR L).2.2]) ∧ ListAt tokL w' (fun b => w.heap.size ≤ b) v (lexR L).1 ∧ Keeps [] w w'
theorem lxLex_any (s : ByteArray) (w : World) (hT : Tabs w) (hE : Errs w) (hs : s.size ≤ 1000000) :
 Calls Tryz.prog 78 #[.string s] w (LexPost s.data.toList w) := by
 have hl : s.data.toList.length = s.size := Array.length_toList
 by_cases hbig : 400 < s.size
 ·have hI : 400 < (s.size : Int) := by omega
  have HR : Hid (lexR s.data.toList = ([], 400, 7)) := by
   show lexR _ = _
   unfold lexR
   rw [if_pos (by rw [hl]; exact hbig)]
  clear hl hbig
  go_enter Tryz.func78, Tryz.ntmps78
  go_wp2_with fail
  go_step3
  go_wp2_with fail
  rw [Exit.noGoto_ret]
  refine bodyPost_ret (v := .tuple #[.slice none 0 0, .int .i64 400, .int .i64 7]) (by simp [results, Tryz.results78, go_sem]) rfl ?_
  exact ⟨_, by rw [HR.out]; rfl, by rw [HR.out]; exact ListAt.nil _ _ _ _, Keeps.refl [] w⟩
 ·have hI : (s.size : Int) ≤ 400 := by omega
  have HR : Hid (lexR s.data.toList = match lexL s.data.toList 0 with
   | .error p => ([], p, 5)
   | .ok ts => (ts, 0, 0)) := by
   show lexR _ = _
   unfold lexR
   rw [if_neg (by rw [hl]; exact hbig)]
  obtain ⟨it, hi0, hz0, hz1, hz2⟩ := info_parts Tryz.infoTok
  have HL := hid hl
  have HT := hid hT
  have HE := hid hE
  have hs4 : s.size ≤ 400 := by omega
  clear hl hbig hT hE
  go_enter Tryz.func78, Tryz.ntmps78
  go_wp2_with fail
  go_step3
  go_wp2_with fail
  go_step3
  go_wp2_with fail
  go_loopw [5, 6] (fun v en wr => ∃ (ts : List TokD) (pos e k : Nat) (a : Option Addr) (q : Nat), pos ≤ s.size ∧ k ≤ pos ∧ e ≤ s.size ∧ v = .slice a k q ∧ en = .int .i64 e ∧ w.heap.size < wr.heap.size ∧ Hid (ts.length = k ∧ LexAt s.data.toList ts pos e ∧ OwnAt tokL 151 wr (w.heap.size + 1) (fun b => w.heap.size ≤ b ∧ b ∉ ownB (.slice a k q)) (.slice a k q) ts ∧ wr.heap[w.heap.size]? = some (.stringIter s pos) ∧ Keeps [] w wr)) (fun _ _ wr => s.size - wr.iterPos w.heap.size)
  case atStart => exact ⟨[], 0, 0, 0, none, 0, Nat.zero_le _, Nat.le_refl _, Nat.zero_le _, rfl, rfl, by simp [World.iter], rfl, LexAt.zero _, OwnAt.nil _ _ _ _, World.iter_heap w s 0, (Keeps.refl [] w).alloc _⟩
  case round =>
   obtain ⟨ts, pos, e, k, a, q, hps, hkp, hes, rfl, rfl, hsz, HW⟩ := hrel
   have hit := HW.out.2.2.2.1
   by_cases hp : pos < s.size
   ·obtain ⟨n, hn⟩ : ∃ n, (Utf8.decode s pos).2 = n := ⟨_, rfl⟩
    obtain ⟨r, hr⟩ : ∃ r, (Utf8.decode s pos).1 = r := ⟨_, rfl⟩
    obtain ⟨wi, hwi⟩ : ∃ wi, wr.iterAt w.heap.size s (pos + n) = wi := ⟨_, rfl⟩
    have hnx : ∀ ty, (Instr.next (.pointer (some ⟨w.heap.size, 0, none⟩)) true ty).run Tryz.prog wr = _ := fun ty => Lib.run_next_any_at wr w.heap.size s pos ty hit hp
    have hit2 := Lib.iterAt_heap wr w.heap.size s pos (pos + n) hit
    have hkw : Keeps [w.heap.size] wr wi := by
     rw [← hwi]
     exact ⟨rfl, rfl, rfl, by rw [Lib.iterAt_size]; exact Nat.le_refl _, fun i _ hi => Lib.iterAt_other wr w.heap.size i s (pos + n) (by simpa using hi)⟩
    have hszi : wi.heap.size = wr.heap.size := by rw [← hwi, Lib.iterAt_size]
    have hr1 : r ≤ 1114111 := by rw [← hr]; exact Lib.rune_le s pos
    have hn1 : 1 ≤ n := by rw [← hn]; exact Lib.width_pos s pos
    have hpl : pos < s.data.toList.length := by rw [HL.out]; exact hp
    have hne : s.data.toList.drop pos ≠ [] := by simp; omega
    have hn2 : pos + n ≤ s.size := by
     have := wid_le hne
     rw [(clsL_drop s pos).2, hn, List.length_drop, HL.out] at this
     omega
    have HC := hid ((clsL_drop s pos).1)
    have HN := hid ((clsL_drop s pos).2)
    rw [hr] at HC
    rw [hn] at HN
    rw [hwi] at hit2
    simp only [hn, hr, hwi] at hnx
    have HT2 := hid hit2
    have HKW := hid hkw
    have HNE := hid hne
    have HPL := hid hpl
    have hzi : w.heap.size < wi.heap.size := by omega
    have HX : Hid (∀ ty, (Instr.next (.pointer (some ⟨w.heap.size, 0, none⟩)) true ty).run Tryz.prog wr = _) := hnx
    clear hit hit2 hkw hwi hn hr hnx hszi hne hpl
    have hnx := HX.out
    go_wp2_with fail
    refine (ruClass_any r _ hr1).mono ?_
    rintro e' w4 ⟨rfl, hk⟩
    obtain ⟨c, hc⟩ : ∃ c, clsR r = c := ⟨_, rfl⟩
    rw [hc] at HC ⊢
    have hc3 : c ≤ 3 := by
     rw [← hc]
     unfold clsR
     repeat' split
     all_goals decide
    have K4 : Hid (Keeps [w.heap.size] wr w4) := HKW.out.trans hk (fun _ _ h => by cases h)
    have HI : Hid (w4.heap[w.heap.size]? = some (.stringIter s (pos + n))) := (hk.block _ hzi (by simp)).trans HT2.out
    have hz4 : w.heap.size < w4.heap.size := Nat.lt_of_lt_of_le hzi hk.size
    have HOB : Hid (∀ b ∈ ownB (.slice a k q), w.heap.size + 1 ≤ b ∧ b < wr.heap.size) := fun b hb => OwnAt.ge HW.out.2.2.1 b hb
    have HOW : Hid (OwnAt tokL 151 w4 (w.heap.size + 1) (fun b => w.heap.size ≤ b ∧ b ∉ ownB (.slice a k q)) (.slice a k q) ts) := by
     obtain ⟨css, g1, g2⟩ := HW.out.2.2.1
     exact ⟨css, ⟨g1.1, fun i cs x h1 h2 => g1.2 i cs x h1 h2⟩, ownsRow_keeps g2 K4.out (fun b hb hb' => by have := (HOB.out b hb).1; simp at hb'; omega)⟩
    have KW4 : Hid (Keeps [] w w4) := HW.out.2.2.2.2.trans K4.out (fun b h1 h2 => by simp at h2; omega)
    have HLX := hid HW.out.2.1
    have HTL := hid HW.out.1
    clear hk hnx hc
    have i0 : (0 : Int) ≤ (pos : Int) := Int.natCast_nonneg _
    have i1 : (pos : Int) ≤ (s.size : Int) := by omega
    by_cases hpe : pos < e
    ·have d1 : (pos : Int) < (e : Int) := by omega
     have HZ : Hid (LexAt s.data.toList ts (pos + n) e) := by
      have := HLX.out.skip HPL.out hpe
      rw [HN.out] at this
      exact this
     clear hpe
     go_wp2_with fail
     go_roundw
     case rel => exact ⟨ts, pos + n, e, k, a, q, hn2, by omega, hes, rfl, rfl, hz4, HTL.out, HZ.out, HOW.out, HI.out, KW4.out⟩
     case measure =>
      simp only [World.iterPos, HI.out, HW.out.2.2.2.1]
      omega
    ·have d1 : (e : Int) ≤ (pos : Int) := by omega
     by_cases hc : c = 3
     ·have d2 : ((c : Int) == 3) = true := by simp [hc]
      have HZ : Hid (LexAt s.data.toList ts (pos + n) e) := by
       have := HLX.out.space HPL.out hpe (HC.out.trans hc)
       rw [HN.out] at this
       exact this
      clear hpe hc
      go_wp2_with fail
      go_roundw
      case rel => exact ⟨ts, pos + n, e, k, a, q, hn2, by omega, hes, rfl, rfl, hz4, HTL.out, HZ.out, HOW.out, HI.out, KW4.out⟩
      case measure =>
       simp only [World.iterPos, HI.out, HW.out.2.2.2.1]
       omega
     ·have d2 : ((c : Int) == 3) = false := by simp; omega
      obtain ⟨m, hm⟩ : ∃ m, s.extract pos s.size = m := ⟨_, rfl⟩
      have hml : m.data.toList = s.data.toList.drop pos := by
       have := extract_str s pos (s.size - pos)
       rw [show pos + (s.size - pos) = s.size by omega, hm] at this
       rw [this]
       exact List.take_of_length_le (by rw [List.length_drop, HL.out]; exact Nat.le_refl _)
      have hmz : m.size = s.size - pos := by rw [← hm, ByteArray.size_extract]; omega
      have HONE := hid (fun w1 hT1 hE1 => lxOne_any m c w1 hT1 hE1 (by omega) (by omega) (by rw [hml]; exact HC.out))
      rw [hml] at HONE
      have HBAD : Hid (oneD (s.data.toList.drop pos) = none → lexL s.data.toList 0 = .error pos) := fun h => HLX.out.bad HPL.out hpe (by rw [HC.out]; exact hc) h
      have HTOK : Hid (∀ t k', oneD (s.data.toList.drop pos) = some (t, k') → LexAt s.data.toList (ts ++ [{ t with at_ := pos }]) (pos + n) (pos + k') ∧ 1 ≤ k' ∧ pos + k' ≤ s.size) := fun t k' h => by
       have h1 := HLX.out.tok HPL.out hpe (by rw [HC.out]; exact hc) h
       rw [HN.out] at h1
       have h2 := oneD_pos HNE.out h
       rw [List.length_drop, HL.out] at h2
       exact ⟨h1, h2.1, by omega⟩
      clear hpe hc hml hmz
      go_wp2_with fail
      refine (HONE.out _ (HT.out.k KW4.out) (HE.out.k KW4.out)).mono ?_
      rintro e' w5 ⟨rfl, hk5⟩
      have K5 := hid hk5
      have z5 : w.heap.size < w5.heap.size := Nat.lt_of_lt_of_le hz4 hk5.size
      clear hk5
      rcases ho : oneD (s.data.toList.drop pos) with _ | ⟨t, k'⟩
      ·have HX2 := hid (HBAD.out ho)
       clear ho
       unfold oneV
       dsimp only
       go_wp2_with fail
       rw [Exit.noGoto_ret]
       refine bodyPost_ret (v := .tuple #[.slice none 0 0, .int .i64 pos, .int .i64 5]) (by simp [results, Tryz.results78, go_sem]) rfl ?_
       have hr2 := HR.out
       rw [HX2.out] at hr2
       exact ⟨_, by rw [hr2]; rfl, by rw [hr2]; exact ListAt.nil _ _ _ _, (KW4.out.trans K5.out (fun _ _ h => h)).trans (G := []) (by exact Keeps.K) (fun _ _ h => h)⟩
      ·obtain ⟨hlx, hk1, hk2⟩ := HTOK.out t k' ho
       have HLX2 := hid hlx
       have d3 : ((k' : Int) == 0) = false := by simp; omega
       have j0 : (0 : Int) ≤ (k' : Int) := Int.natCast_nonneg _
       have j1 : (pos : Int) + (k' : Int) ≤ 400 := by omega
       have HRW : Hid (((w5.alloc (.cells #[.int .i64 t.kind, .string (str t.s), .int .i64 t.n, .int .i64 pos] 151)).alloc (.cells #[.int .i64 t.kind, .string (str t.s), .int .i64 t.n, .int .i64 pos] 151)).heap[w5.heap.size + 1]? = some (.cells #[.int .i64 t.kind, .string (str t.s), .int .i64 t.n, .int .i64 pos] 151 (0, 0))) := by
        have h1 := heap_alloc_new (w5.alloc (.cells #[.int .i64 t.kind, .string (str t.s), .int .i64 t.n, .int .i64 pos] 151)) (.cells #[.int .i64 t.kind, .string (str t.s), .int .i64 t.n, .int .i64 pos] 151)
        rw [show (w5.alloc (.cells #[.int .i64 t.kind, .string (str t.s), .int .i64 t.n, .int .i64 pos] 151)).heap.size = w5.heap.size + 1 by simp] at h1
        exact h1
       have HOW5 : Hid (OwnAt tokL 151 w5 (w.heap.size + 1) (fun b => w.heap.size ≤ b ∧ b ∉ ownB (.slice a k q)) (.slice a k q) ts) := OwnAt.k HOW.out K5.out
       have HOB5 : Hid (∀ b ∈ ownB (.slice a k q), w.heap.size + 1 ≤ b ∧ b < w5.heap.size) := OwnAt.ge HOW5.out
       have HI5 : Hid (w5.heap[w.heap.size]? = some (.stringIter s (pos + n))) := (K5.out.block _ hz4 (by simp)).trans HI.out
       clear ho hlx
       unfold oneV
       dsimp only
       go_wp2_with (at_builtin; go_must (refine wpList_append_off (L := tokL) (PB := fun _ => False) _ (by rfl) _ _ _ (by rfl) (w.heap.size + 1) 151 it _ 40 Tryz.underlying147 hi0 hz0 hz1 hz2 rfl (R := fun b => w.heap.size ≤ b) (.slice a k q) (by rfl) ts [{ t with at_ := pos }] k HTL.out [[.int .i64 t.kind, .string (str t.s), .int .i64 t.n, .int .i64 pos]] (HOW5.out.k (by exact Keeps.K)) (.slice _ _ _) (by rfl) 1 rfl (ElemsAt.one1 (by show _ = tokC _; rfl)) (Reads.one1 HRW.out rfl) (by omega) (le_maxLen (by omega)) (by exact Nat.le_trans (Nat.succ_le_of_lt z5) (Keeps.size (F := []) (by exact Keeps.K))) (fun b _ hb => hb.elim) ?_; intro a6 q6 w6 ho6 hk6 hv6))
       have KX : Hid (Keeps [] w5 ((w5.alloc (.cells #[.int .i64 t.kind, .string (str t.s), .int .i64 t.n, .int .i64 pos] 151)).alloc (.cells #[.int .i64 t.kind, .string (str t.s), .int .i64 t.n, .int .i64 pos] 151))) := by exact Keeps.K
       have HI6 : Hid (w6.heap[w.heap.size]? = some (.stringIter s (pos + n))) := by
        have h1 := hk6.out.block w.heap.size (Nat.lt_of_lt_of_le z5 KX.out.size) (fun h => by have := (HOB5.out _ h).1; omega)
        exact h1.trans ((KX.out.block _ z5 (by simp)).trans HI5.out)
       have HK6 : Hid (Keeps [] w w6) := ((KW4.out.trans K5.out (fun _ _ h => h)).trans KX.out (fun _ _ h => h)).trans hk6.out (fun b hb hb' => by have := (HOB5.out b hb').1; omega)
       have HZ6 : w.heap.size < w6.heap.size := Nat.lt_of_lt_of_le (Nat.lt_of_lt_of_le z5 KX.out.size) hk6.out.size
       refine ⟨⟨ts ++ [{ t with at_ := pos }], pos + n, pos + k', k + 1, a6, q6, hn2, by omega, hk2, rfl, by simp, HZ6, by rw [List.length_append, HTL.out]; rfl, HLX2.out, ho6.out, HI6.out, HK6.out⟩, ?_⟩
       simp only [World.iterPos, HI6.out, HW.out.2.2.2.1]
       omega
   ·have he : pos = s.size := by omega
    subst he
    have hnx : ∀ ty, (Instr.next (.pointer (some ⟨w.heap.size, 0, none⟩)) true ty).run Tryz.prog wr = _ := fun ty => Lib.run_next_end_at wr w.heap.size s s.size ty hit hp
    have HX2 : Hid (lexL s.data.toList 0 = .ok (ts ++ [⟨0, [], 0, s.size⟩])) := by
     have := HW.out.2.1.end_ (by rw [HL.out]; exact hp)
     rw [HL.out] at this
     exact this
    have HTL := hid HW.out.1
    have HOW := hid HW.out.2.2.1
    have HKW := hid HW.out.2.2.2.2
    have HOB : Hid (∀ b ∈ ownB (.slice a k q), w.heap.size + 1 ≤ b ∧ b < wr.heap.size) := fun b hb => OwnAt.ge HOW.out b hb
    have HRW : Hid ((wr.alloc (.cells #[.int .i64 0, .string ⟨#[]⟩, .int .i64 0, .int .i64 s.size] 151)).heap[wr.heap.size]? = some (.cells #[.int .i64 0, .string ⟨#[]⟩, .int .i64 0, .int .i64 s.size] 151 (0, 0))) := heap_alloc_new _ _
    clear hit hp
    go_wp2_with (at_builtin; go_must (refine wpList_append_off (L := tokL) (PB := fun _ => False) _ (by rfl) _ _ _ (by rfl) (w.heap.size + 1) 151 it _ 40 Tryz.underlying147 hi0 hz0 hz1 hz2 rfl (R := fun b => w.heap.size ≤ b) (.slice a k q) (by rfl) ts [⟨0, [], 0, s.size⟩] k HTL.out [[.int .i64 0, .string ⟨#[]⟩, .int .i64 0, .int .i64 s.size]] (HOW.out.k (by exact Keeps.K)) (.slice _ _ _) (by rfl) 1 rfl (ElemsAt.one1 (by show _ = tokC _; rfl)) (Reads.one1 HRW.out rfl) (by omega) (le_maxLen (by omega)) (by exact Nat.le_trans (Nat.succ_le_of_lt hsz) (Keeps.size (F := []) (by exact Keeps.K))) (fun b _ hb => hb.elim) ?_; intro a6 q6 w6 ho6 hk6 hv6))
    rw [Exit.noGoto_ret]
    refine bodyPost_ret (v := .tuple #[.slice a6 (k + 1) q6, .int .i64 0, .int .i64 0]) (by simp [results, Tryz.results78, go_sem]) rfl ?_
    have hr2 := HR.out
    rw [HX2.out] at hr2
    refine ⟨.slice a6 (k + 1) q6, by rw [hr2]; rfl, by rw [hr2]; exact OwnAt.list ho6.out (fun b _ hb => hb.1) (fun b hb => by have := (OwnAt.ge ho6.out b hb).1; omega), ?_⟩
    exact (HKW.out.trans (G := []) (by exact Keeps.K) (fun _ _ h => h)).trans hk6.out (fun b hb hb' => by have := (HOB.out b hb').1; omega)
theorem tok_get {w : World} {P : Nat → Prop} {b off n c : Nat} {l : List TokD} (h : ListAt tokL w P (.slice (some ⟨b, off, none⟩) n c) l) {i : Nat} {t : TokD} (ht : l[i]? = some t) :
 w.cell? ⟨b, off + i * 4, none⟩ = some (.int .i64 t.kind) ∧ w.cell? ⟨b, off + i * 4 + 1, none⟩ = some (.string (str t.s)) ∧ w.cell? ⟨b, off + i * 4 + 2, none⟩ = some (.int .i64 t.n) ∧ w.cell? ⟨b, off + i * 4 + 3, none⟩ = some (.int .i64 t.at_) := by
 obtain ⟨cs, hcs, hcell⟩ := h.get ht
 have hcs : cs = tokC t := hcs
 subst hcs
 exact ⟨hcell 0 _ rfl, hcell 1 _ rfl, hcell 2 _ rfl, hcell 3 _ rfl⟩
def wordsL : List (List UInt8) := [[116, 114, 117, 101], [102, 97, 108, 115, 101], [105, 102], [108, 101, 110], [99, 97, 116], [99, 117, 116], [104, 97, 115], [117, 112]]
def wordD (s : ByteArray) : Bool := wordsL.any fun l => s.toList == l
def nameD (s : ByteArray) : Bool := if (lexR s.data.toList).2.2 = 0 ∧ (lexR s.data.toList).1.length = 2 ∧ ((lexR s.data.toList).1.getD 0 ⟨0, [], 0, 0⟩).kind = 3 ∧ ((lexR s.data.toList).1.getD 0 ⟨0, [], 0, 0⟩).s = s.data.toList then !wordD s else false
theorem lxWord_any (s : ByteArray) (w : World) : Calls Tryz.prog 79 #[.string s] w fun e w' => e = .returned (.bool (wordD s)) ∧ Keeps [] w w' := by
 have HW : Hid (∀ b, wordD s = b → Ending.returned (.bool b) = .returned (.bool (wordD s)) ∧ Keeps [] w w) := fun b h => ⟨by rw [h], Keeps.refl _ _⟩
 go_enter Tryz.func79, Tryz.ntmps79
 go_wp2_with fail
 all_goals
  go_ret
  refine HW.out _ ?_
  clear HW
  simp_all [wordD, wordsL]
theorem toList_ne {x s : ByteArray} (h : x ≠ s) : (x.toList == s.toList) = false := by
 rw [beq_eq_false_iff_ne]
 intro e
 rw [ByteArray.toList_eq, ByteArray.toList_eq] at e
 exact h (ByteArray.ext (Array.toList_inj.1 e))
theorem lxLex_all (s : ByteArray) (w : World) (hT : Tabs w) (hE : Errs w) : Calls Tryz.prog 78 #[.string s] w (LexPost s.data.toList w) := by
 by_cases hbig : s.size ≤ 1000000
 ·exact lxLex_any s w hT hE hbig
 have hl : s.data.toList.length = s.size := Array.length_toList
 have hI : 400 < (s.size : Int) := by omega
 have HR : Hid (lexR s.data.toList = ([], 400, 7)) := by
  show lexR _ = _
  unfold lexR
  rw [if_pos (by rw [hl]; omega)]
 clear hl hbig hT hE
 go_enter Tryz.func78, Tryz.ntmps78
 go_wp2_with fail
 go_step3
 go_wp2_with fail
 rw [Exit.noGoto_ret]
 refine bodyPost_ret (v := .tuple #[.slice none 0 0, .int .i64 400, .int .i64 7]) (by simp [results, Tryz.results78, go_sem]) rfl ?_
 exact ⟨_, by rw [HR.out]; rfl, by rw [HR.out]; exact ListAt.nil _ _ _ _, Keeps.refl [] w⟩
theorem lxName_any (s : ByteArray) (w : World) (hT : Tabs w) (hE : Errs w) : Calls Tryz.prog 27 #[.string s] w fun e w' => e = .returned (.bool (nameD s)) ∧ Keeps [] w w' := by
 have HX := hid (lxLex_all s w hT hE)
 obtain ⟨⟨ts, p, e⟩, hR⟩ : ∃ x, lexR s.data.toList = x := ⟨_, rfl⟩
 have HD : Hid (nameD s = if e = 0 ∧ ts.length = 2 ∧ (ts.getD 0 ⟨0, [], 0, 0⟩).kind = 3 ∧ (ts.getD 0 ⟨0, [], 0, 0⟩).s = s.data.toList then !wordD s else false) := by
  show _ = _
  unfold nameD
  rw [hR]
 unfold LexPost at HX
 rw [hR] at HX
 dsimp only at HX
 clear hR hT hE
 go_enter Tryz.func27, Tryz.ntmps27
 go_wp2_with fail
 refine HX.out.mono ?_
 rintro e' w2 ⟨v, rfl, hla, hk⟩
 have K2 := hid hk
 have LA2 := hid hla
 obtain ⟨a, q, rfl⟩ := hla.form
 by_cases he : e = 0
 ·subst he
  by_cases hn : ts.length = 2
  ·obtain ⟨t, u, rfl⟩ : ∃ t u, ts = [t, u] := by
    match ts, hn with
    | [t, u], _ => exact ⟨t, u, rfl⟩
   obtain ⟨b, off, c, hv, hc1, hc2, hc3, hc4⟩ := hla.addr (by simp)
   simp at hv
   obtain ⟨rfl, rfl⟩ := hv
   obtain ⟨x0, x1, _, _⟩ := tok_get hla (i := 0) rfl
   have y0 : w2.cell? ⟨b, off, none⟩ = some (.int .i64 t.kind) := x0
   have y1 : w2.cell? ⟨b, off + 1, none⟩ = some (.string (str t.s)) := by rw [Nat.zero_mul] at x1; exact x1
   have HD2 : Hid (nameD s = if t.kind = 3 ∧ t.s = s.data.toList then !wordD s else false) := by
    show _ = _
    rw [HD.out]
    simp
   obtain ⟨kd, hkd⟩ : ∃ kd, t.kind = kd := ⟨_, rfl⟩
   obtain ⟨x, hx⟩ : ∃ x, str t.s = x := ⟨_, rfl⟩
   have hxt : t.s = s.data.toList ↔ x = s := by
    constructor
    ·intro h; rw [← hx, h]; exact ByteArray.ext rfl
    ·intro h; rw [← h, ← hx]; rfl
   rw [hkd] at HD2 y0
   rw [hx] at y1
   have HXT := hid hxt
   clear hk hla x0 x1 hc1 hc2 hc3 hc4 hn hkd hx hxt
   by_cases h3 : kd = 3
   ·subst h3
    by_cases hxs : x = s
    ·have HB : Hid (nameD s = !wordD s) := by
      show _ = _
      rw [HD2.out, if_pos ⟨rfl, HXT.out.2 hxs⟩]
     subst hxs
     go_wp2_with fail
     refine (lxWord_any _ _).mono ?_
     rintro e w3 ⟨rfl, hk⟩
     have K := hid (K2.out.trans hk (fun _ _ h => h))
     clear hk
     obtain ⟨wd, hwd⟩ : ∃ wd, wordD x = wd := ⟨_, rfl⟩
     rw [hwd] at HB ⊢
     clear hwd
     rcases wd with _ | _
     all_goals
      go_wp2_with fail
      go_ret
      exact ⟨by rw [HB.out]; rfl, K.out⟩
    ·have HB : Hid (nameD s = false) := by
      show _ = _
      rw [HD2.out, if_neg (fun h => hxs (HXT.out.1 h.2))]
     have q1 := toList_ne hxs
     clear hxs
     go_wp2_with fail
     go_ret
     exact ⟨by rw [HB.out]; rfl, K2.out⟩
   ·have HB : Hid (nameD s = false) := by
     show _ = _
     rw [HD2.out, if_neg (fun h => h3 h.1)]
    have q1 : (kd == 3) = false := by simp; exact h3
    clear h3
    go_wp2_with fail
    go_ret
    exact ⟨by rw [HB.out]; rfl, K2.out⟩
  ·have HB : Hid (nameD s = false) := by
    show _ = _
    rw [HD.out, if_neg (fun h => hn h.2.1)]
   obtain ⟨n, hn'⟩ : ∃ n, ts.length = n := ⟨_, rfl⟩
   rw [hn'] at hn ⊢
   have q1 : ((n : Int) == 2) = false := by simp; omega
   clear hk hla hn hn'
   go_wp2_with fail
   go_ret
   exact ⟨by rw [HB.out]; rfl, K2.out⟩
 ·have HB : Hid (nameD s = false) := by
   show _ = _
   rw [HD.out, if_neg (fun h => he h.1)]
  have q1 : ((e : Int) == 0) = false := by simp; omega
  clear hk hla he
  go_wp2_with fail
  go_ret
  exact ⟨by rw [HB.out]; rfl, K2.out⟩
inductive ExprD where
 | mk (op n : Int) (s : ByteArray) (kids : List ExprD)
namespace ExprD
def op : ExprD → Int | .mk o _ _ _ => o
def n : ExprD → Int | .mk _ n _ _ => n
def s : ExprD → ByteArray | .mk _ _ s _ => s
def kids : ExprD → List ExprD | .mk _ _ _ k => k
end ExprD
def noExpr : ExprD := .mk 0 0 ⟨#[]⟩ []
def kidsN (op : Int) : Int :=
 if 1 ≤ op ∧ op ≤ 4 then 0
 else if op = 5 ∨ op = 6 ∨ op = 19 ∨ op = 22 ∨ op = 23 then 1
 else if (7 ≤ op ∧ op ≤ 17) ∨ op = 20 ∨ op = 21 then 2
 else if op = 18 then 3 else -1
def aloneD (e : ExprD) : Bool :=
 decide ((e.kids.length : Int) = kidsN e.op) &&
  (if e.op = 1 then decide (0 ≤ e.n) && emptyB e.s
   else if e.op = 2 then decide (e.n = 0) && checkD ⟨3, 0, e.s⟩
   else if e.op = 3 then (decide (e.n = 0) || decide (e.n = 1)) && emptyB e.s
   else if e.op = 4 then decide (e.n = 0) && nameD e.s
   else decide (e.n = 0) && (emptyB e.s && (decide (e.op ≠ 22) || decide ((e.kids.getD 0 noExpr).op = 4))))
mutual
def holdsE : ExprD → Int → Int → Int × Bool
 | .mk o n s ks, left, deep => if left - 1 < 0 ∨ 24 < deep ∨ aloneD (.mk o n s ks) = false then (left - 1, false) else holdsK ks (left - 1) (deep + 1)
def holdsK : List ExprD → Int → Int → Int × Bool
 | [], left, _ => (left, true)
 | e :: r, left, deep => if (holdsE e left deep).2 = false then ((holdsE e left deep).1, false) else holdsK r (holdsE e left deep).1 deep
end
def exprOk (e : ExprD) : Bool := (holdsE e 128 1).2
def madeT (op a b c : Int) : Int :=
 if op = 1 then 1
 else if op = 2 then 3
 else if op = 5 then (if a = 1 then 1 else 0)
 else if 7 ≤ op ∧ op ≤ 11 then (if a = 1 ∧ b = 1 then 1 else 0)
 else if op = 6 then (if a = 2 then 2 else 0)
 else if op = 16 ∨ op = 17 then (if a = 2 ∧ b = 2 then 2 else 0)
 else if op = 12 ∨ op = 13 then (if a = b then 2 else 0)
 else if op = 14 ∨ op = 15 then (if a = b ∧ a ≠ 2 then 2 else 0)
 else if op = 18 then (if a = 2 ∧ b = c then b else 0)
 else if op = 19 then (if a = 3 then 1 else 0)
 else if op = 20 then (if a = 3 ∧ b = 3 then 3 else 0)
 else if op = 21 then (if a = 3 ∧ b = 1 then 3 else 0)
 else if op = 23 then (if a = 3 then 3 else 0)
 else 2
def atName (s : ByteArray) : List ByteArray → Option Nat
 | [] => none
 | x :: r => if x.toList == s.toList then some 0 else (atName s r).map (· + 1)
def findT (s : ByteArray) (names : List ByteArray) (types : List Int) : Option Int :=
 match atName s names with
 | none => none
 | some i => match types[i]? with
   | none => none
   | some t => if t < 1 ∨ 3 < t then none else some t
mutual
def ofE : ExprD → List ByteArray → List Int → Int × Int
 | .mk o _ s ks, names, types =>
   match ofK ks names types with
   | .error e => (0, e)
   | .ok ts =>
     if o = 4 then (match findT s names types with | none => (0, 9) | some t => (t, 0))
     else if madeT o (ts.getD 0 0) (ts.getD 1 0) (ts.getD 2 0) = 0 then (0, 8) else (madeT o (ts.getD 0 0) (ts.getD 1 0) (ts.getD 2 0), 0)
def ofK : List ExprD → List ByteArray → List Int → Except Int (List Int)
 | [], _, _ => .ok []
 | e :: r, names, types =>
   if (ofE e names types).2 ≠ 0 then .error (ofE e names types).2
   else match ofK r names types with
    | .error x => .error x
    | .ok l => .ok ((ofE e names types).1 :: l)
end
mutual
def namesE : ExprD → List ByteArray
 | .mk o _ s ks => (if o = 4 then [s] else []) ++ namesK ks
def namesK : List ExprD → List ByteArray
 | [] => []
 | e :: r => namesE e ++ namesK r
end
mutual
def ExprAt (w : World) (P : Nat → Prop) : ExprD → List Value → Prop
 | .mk o n s ks, cs => ∃ kv css, cs = [.int .i64 o, .int .i64 n, .string s, kv] ∧ KidsAt w P ks css ∧ Reads w 4 kv ks.length css.flatten ∧ Lies P kv ks.length
def KidsAt (w : World) (P : Nat → Prop) : List ExprD → List (List Value) → Prop
 | [], css => css = []
 | e :: r, css => ∃ c rest, css = c :: rest ∧ ExprAt w P e c ∧ KidsAt w P r rest
end
theorem ExprAt.len {w : World} {P : Nat → Prop} : ∀ {e : ExprD} {cs : List Value}, ExprAt w P e cs → cs.length = 4
 | .mk _ _ _ _, _, h => by
   simp only [ExprAt] at h
   obtain ⟨_, _, rfl, _⟩ := h
   rfl
theorem ExprAt.one {w : World} {P : Nat → Prop} : ∀ {e : ExprD} {cs : List Value}, ExprAt w P e cs → ∀ u ∈ cs, u.oneCell' = true
 | .mk _ _ _ _, _, h => by
   simp only [ExprAt] at h
   obtain ⟨kv, _, rfl, _, hr, _⟩ := h
   obtain ⟨a, c, rfl⟩ := hr.form
   intro u hu
   simp at hu
   rcases hu with rfl | rfl | rfl | rfl <;> rfl
mutual
theorem ExprAt.keep {G : List Nat} {w w' : World} {P : Nat → Prop} (k : Keeps G w w') (hP : ∀ b, P b → b ∉ G) : ∀ {e : ExprD} {cs : List Value}, ExprAt w P e cs → ExprAt w' P e cs
 | .mk _ _ _ ks, _, h => by
   simp only [ExprAt] at h ⊢
   obtain ⟨kv, css, h1, h2, h3, h4⟩ := h
   exact ⟨kv, css, h1, KidsAt.keep k hP h2, h3.keepsL h4 k hP, h4⟩
theorem KidsAt.keep {G : List Nat} {w w' : World} {P : Nat → Prop} (k : Keeps G w w') (hP : ∀ b, P b → b ∉ G) : ∀ {ks : List ExprD} {css : List (List Value)}, KidsAt w P ks css → KidsAt w' P ks css
 | [], _, h => by simpa only [KidsAt] using h
 | _ :: _, _, h => by
   simp only [KidsAt] at h ⊢
   obtain ⟨c, rest, h1, h2, h3⟩ := h
   exact ⟨c, rest, h1, ExprAt.keep k hP h2, KidsAt.keep k hP h3⟩
end
mutual
theorem ExprAt.mono {w : World} {P P' : Nat → Prop} (hP : ∀ b, b < w.heap.size → P b → P' b) : ∀ {e : ExprD} {cs : List Value}, ExprAt w P e cs → ExprAt w P' e cs
 | .mk _ _ _ ks, _, h => by
   simp only [ExprAt] at h ⊢
   obtain ⟨kv, css, h1, h2, h3, h4⟩ := h
   exact ⟨kv, css, h1, KidsAt.mono hP h2, h3, h4.mono h3 hP⟩
theorem KidsAt.mono {w : World} {P P' : Nat → Prop} (hP : ∀ b, b < w.heap.size → P b → P' b) : ∀ {ks : List ExprD} {css : List (List Value)}, KidsAt w P ks css → KidsAt w P' ks css
 | [], _, h => by simpa only [KidsAt] using h
 | _ :: _, _, h => by
   simp only [KidsAt] at h ⊢
   obtain ⟨c, rest, h1, h2, h3⟩ := h
   exact ⟨c, rest, h1, ExprAt.mono hP h2, KidsAt.mono hP h3⟩
end
def exprL : Lay ExprD where
 size := 4
 pos := by decide
 at_ w P cs e := ExprAt w P e cs
 len := fun h => h.len
 one := fun h => h.one
 keep := fun h k hP => h.keep k hP
 mono := fun h hP => h.mono hP
theorem KidsAt.elems {w : World} {P : Nat → Prop} : ∀ {ks : List ExprD} {css : List (List Value)}, KidsAt w P ks css → ElemsAt exprL w P css ks
 | [], _, h => by
   simp only [KidsAt] at h
   subst h
   exact ElemsAt.nil _ _
 | e :: r, _, h => by
   simp only [KidsAt] at h
   obtain ⟨c, rest, rfl, h2, h3⟩ := h
   have h4 := KidsAt.elems h3
   refine ⟨by simp [h4.1], fun i cs a hc ha => ?_⟩
   cases i with
   | zero => simp at hc ha; subst hc ha; exact h2
   | succ i => exact h4.2 i cs a (by simpa using hc) (by simpa using ha)
theorem ElemsAt.kids {w : World} {P : Nat → Prop} : ∀ {ks : List ExprD} {css : List (List Value)}, ElemsAt exprL w P css ks → KidsAt w P ks css
 | [], [], _ => by simp only [KidsAt]
 | [], _ :: _, h => by have := h.1; simp at this
 | _ :: _, [], h => by have := h.1; simp at this
 | e :: r, c :: rest, h => by
   simp only [KidsAt]
   exact ⟨c, rest, rfl, h.2 0 c e rfl rfl, ElemsAt.kids ⟨by have := h.1; simpa using this, fun i cs a hc ha => h.2 (i + 1) cs a (by simpa using hc) (by simpa using ha)⟩⟩
theorem ExprAt.parts {w : World} {P : Nat → Prop} {o n : Int} {s : ByteArray} {ks : List ExprD} {cs : List Value} (h : ExprAt w P (.mk o n s ks) cs) : ∃ a c, cs = [.int .i64 o, .int .i64 n, .string s, .slice a ks.length c] ∧ ListAt exprL w P (.slice a ks.length c) ks := by
 simp only [ExprAt] at h
 obtain ⟨kv, css, h1, h2, h3, h4⟩ := h
 obtain ⟨a, c, rfl⟩ := h3.form
 exact ⟨a, c, h1, css, h2.elems, h3, h4⟩
theorem ExprAt.of {w : World} {P : Nat → Prop} {o n : Int} {s : ByteArray} {ks : List ExprD} {kv : Value} (h : ListAt exprL w P kv ks) : ExprAt w P (.mk o n s ks) [.int .i64 o, .int .i64 n, .string s, kv] := by
 obtain ⟨css, h1, h2, h3⟩ := h
 simp only [ExprAt]
 exact ⟨kv, css, rfl, h1.kids, h2, h3⟩
end Go.Proofs.YtgjiahilbmeaeaaGreatDoor