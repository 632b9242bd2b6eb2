/- Joined of RfL0, LxM. -/
import Derived.Test.YtnjdepojmnniaaaGreatDoorQ07
import Derived.Test.YtnjdepojmnniaaaGreatDoorQ10

set_option linter.unusedSimpArgs false
set_option linter.unusedVariables false

/- ParseInt; which values are shown how. -/
namespace Go.Proofs.YtnjdepojmnniaaaGreatDoor
open Go Go.RowKit

theorem var_k {w w' : World} {nm : String} {cs : Array Value} (h : w.var? Tryz.prog nm = some cs) (k : Keeps [] w w') : w'.var? Tryz.prog nm = some cs := by
  unfold World.var? at h ⊢
  cases hg : Tryz.prog.globalNamed nm with
  | none => simp [hg] at h
  | some g =>
    simp only [hg, Option.bind_some] at h ⊢
    have hlt : g < w.heap.size := by
      rcases Nat.lt_or_ge g w.heap.size with h' | h'
      · exact h'
      · simp [Array.getElem?_eq_none h'] at h
    rw [k.block g hlt (by simp)]
    exact h
theorem Errs.k {w w' : World} (h : Errs w) (k : Keeps [] w w') : Errs w' := by
  obtain ⟨⟨t, p, h1⟩, ⟨t2, p2, h2⟩⟩ := h
  exact ⟨⟨t, p, var_k h1 k⟩, ⟨t2, p2, var_k h2 k⟩⟩
theorem cParse_any (s : ByteArray) (w : World) (hE : Errs w) (hs : s.size ≤ 1000000) : Calls Tryz.prog 88 #[.string s, .int .i64 10, .int .i64 64] w fun e w' =>
    Keeps [] w w' ∧ ((∃ n, Lib.parseIntB 64 s.data.toList = .ok n ∧ e = .returned (.tuple #[.int .i64 n, .nilIface])) ∨ ((∀ n, Lib.parseIntB 64 s.data.toList ≠ .ok n) ∧ ∃ z t p, e = .returned (.tuple #[.int .i64 z, .iface t p]))) := by
  obtain ⟨⟨t1, p1, h1⟩, ⟨t2, p2, h2⟩⟩ := hE
  cases h : Lib.parseIntB 64 s.data.toList
  · refine (Tryz.strconv_ParseInt_10_at64_ok s (by omega) _ h w).mono fun e w' hh => ⟨?_, .inl ⟨_, rfl, hh.1⟩⟩
    rcases hh.2 with rfl | ⟨t, rfl⟩
    · exact Keeps.refl [] _
    · exact keeps_bytes w _ t
  · refine (Any.strconv_ParseInt_10_at64_syntax_var Tryz.laysC174 s (by omega) h t1 p1 w h1).mono fun e w' hh => ?_
    obtain ⟨N, he, _, _, hb⟩ := hh
    exact ⟨Keeps.ofBelowSize hb, .inr ⟨fun n hn => by (cases hn), _, _, _, he⟩⟩
  · refine (Tryz.strconv_ParseInt_10_at64_range_var s (by omega) h t2 p2 w h2).mono fun e w' hh => ?_
    obtain ⟨N, he, _, _, hb⟩ := hh
    exact ⟨Keeps.ofBelowSize hb, .inr ⟨fun n hn => by (cases hn), _, _, _, he⟩⟩

theorem shows_cases {u : ValD} {l : List UInt8} (hc : checkD u = true) (h : showL u = l) :
    l = [45] ∨ (u = ⟨1, u.n, ⟨#[]⟩⟩ ∧ l = Lib.itoa u.n) ∨ (l = [116, 114, 117, 101] ∨ l = [102, 97, 108, 115, 101]) ∨ (u = ⟨3, 0, u.s⟩ ∧ l = quoteL u.s.data.toList ∧ Lib.validD u.s.data.toList = true) ∨ (u = ⟨4, u.n, ⟨#[]⟩⟩ ∧ l = 35 :: Lib.itoa u.n) := by
  obtain ⟨k, n, s⟩ := u
  rcases checkD_cases hc with A | A | A | A | A
  · dsimp only at A
    obtain ⟨rfl, rfl, rfl⟩ := A
    exact .inl (by rw [← h]; rfl)
  · dsimp only at A
    obtain ⟨rfl, rfl⟩ := A
    exact .inr (.inl ⟨rfl, by rw [← h, showL_int]⟩)
  · dsimp only at A
    obtain ⟨rfl, hn, rfl⟩ := A
    refine .inr (.inr (.inl ?_))
    rcases hn with rfl | rfl
    · exact .inr (by rw [← h]; rfl)
    · exact .inl (by rw [← h]; rfl)
  · dsimp only at A
    obtain ⟨rfl, rfl, hv⟩ := A
    exact .inr (.inr (.inr (.inl ⟨rfl, by rw [← h, showL_text], hv⟩)))
  · dsimp only at A
    obtain ⟨rfl, rfl⟩ := A
    exact .inr (.inr (.inr (.inr ⟨rfl, by rw [← h, showL_bad]⟩)))
theorem itoa_head {n : Int} {b : UInt8} (h : (Lib.itoa n).head? = some b) : b.toNat ≠ 34 ∧ b.toNat ≠ 35 ∧ b.toNat ≠ 116 ∧ b.toNat ≠ 102 := by
  rcases e : Lib.itoa n with _ | ⟨c, t⟩
  · rw [e] at h; cases h
  · have := itoa_first e
    rw [e] at h
    have hb : c = b := by simpa using h
    subst hb
    omega

end Go.Proofs.YtnjdepojmnniaaaGreatDoor

/- The token ahead, as the program finds it. -/
namespace Go.Proofs.YtnjdepojmnniaaaGreatDoor
open Go Go.RowKit

def tokC (t : TokD) : List Value := [.int .i64 t.kind, .string (str t.s), .int .i64 t.n, .int .i64 t.at_]
def tokV (t : TokD) : Value := .agg #[.int .i64 t.kind, .string (str t.s), .int .i64 t.n, .int .i64 t.at_]
def oneV : Option (TokD × Nat) → Value
  | none => .tuple #[.agg #[.int .i64 0, .string ⟨#[]⟩, .int .i64 0, .int .i64 0], .int .i64 0]
  | some (t, k) => .tuple #[.agg #[.int .i64 t.kind, .string (str t.s), .int .i64 t.n, .int .i64 t.at_], .int .i64 k]
theorem blk4 {w : World} {b : Nat} {x0 x1 x2 x3 : Value} {t : TypeId} (h : w.heap[b]? = some (.cells #[x0, x1, x2, x3] t (0, 0))) :
    (w.cell? ⟨b, 0, none⟩ = some x0 ∧ w.cell? ⟨b, 1, none⟩ = some x1 ∧ w.cell? ⟨b, 2, none⟩ = some x2 ∧ w.cell? ⟨b, 3, none⟩ = some x3) ∧ ∀ i, w.frozen? ⟨b, i, none⟩ = false :=
  ⟨⟨cell_of_block h 0, cell_of_block h 1, cell_of_block h 2, cell_of_block h 3⟩, fun i => frozen_of_row w b i _ _ h⟩
theorem str_take (s : ByteArray) (m : Nat) : s.extract 0 m = str (s.data.toList.take m) ∧ (s.extract 0 m).data.toList = s.data.toList.take m := by
  have h : (s.extract 0 m).data.toList = s.data.toList.take m := by
    have := extract_str s 0 m
    rw [Nat.zero_add, List.drop_zero] at this
    rw [this]; rfl
  refine ⟨?_, h⟩
  refine ByteArray.ext (Array.toList_inj.1 ?_)
  rw [h]; rfl

set_option maxRecDepth 100000 in
set_option maxHeartbeats 4000000 in
theorem lxOne_num (s : ByteArray) (w : World) (hE : Errs w) (h0 : 0 < s.size) (hs : s.size ≤ 1000000) (hc : clsL s.data.toList = 2) :
    Calls Tryz.prog 78 #[.string s, .int .i64 2] w fun e w' => e = .returned (oneV (oneD s.data.toList)) ∧ Keeps [] w w' := by
  have hl : s.data.toList.length = s.size := Array.length_toList
  have hne : s.data.toList ≠ [] := by intro h; rw [h] at hl; simp at hl; omega
  obtain ⟨m, hm⟩ : ∃ m, runL 2 2 s.data.toList = m := ⟨_, rfl⟩
  have hm1 : 1 ≤ m := by rw [← hm, runL_in hne (.inl hc)]; have := wid_pos s.data.toList; omega
  have hm2 : m ≤ s.size := by rw [← hm, ← hl]; exact runL_le 2 2 _ _ (Nat.le_refl _)
  have HD : Hid (oneD s.data.toList = if decV (s.data.toList.take m) ≤ 9223372036854775807 then some (⟨1, [], decV (s.data.toList.take m), 0⟩, m) else none) := by
    show _ = _
    unfold oneD
    rw [if_pos hc, hm]
  have HP : Hid (_ ∧ _) := parse_digits (l := s.data.toList.take m) (by intro h; have := congrArg List.length h; rw [List.length_take, List.length_nil, hl] at this; omega) (by rw [← hm]; exact run_digits _ _ (Nat.le_refl _))
  have HE := hid hE
  have HR := hid (fun w1 => lxRun_any s 2 2 w1 hs (by decide) (by decide))
  rw [hm] at HR
  have hmI : (m : Int) ≤ (s.size : Int) := by omega
  have HX := hid (str_take s m)
  clear hE hl hne hm hc
  go_enter Tryz.func78, Tryz.ntmps78
  go_wp2_with fail
  refine (HR.out _).mono ?_
  rintro e w2 ⟨rfl, hk⟩
  have K2 : Hid (Keeps [] w w2) := Keeps.trans (by exact Keeps.K) hk (fun _ _ h => h)
  have HB2 : Hid (w2.heap[w.heap.size]? = some (.cells #[.int .i64 0, .string ⟨#[]⟩, .int .i64 0, .int .i64 0] 93 (0, 0))) := (hk.block _ (by simp) (by simp)).trans (heap_alloc_new _ _)
  have z2 : w.heap.size < w2.heap.size := by have := hk.size; simp at this; omega
  clear hk
  go_wp2_with fail
  refine (cParse_any _ _ (HE.out.k (K2.out)) (by rw [ByteArray.size_extract]; omega)).mono ?_
  rintro e w3 ⟨hk3, he⟩
  have K3 : Hid (Keeps [] w w3) := K2.out.trans hk3 (fun _ _ h => h)
  have HB3 : Hid (w3.heap[w.heap.size]? = some (.cells #[.int .i64 0, .string ⟨#[]⟩, .int .i64 0, .int .i64 0] 93 (0, 0))) := (hk3.block _ z2 (by simp)).trans HB2.out
  obtain ⟨⟨r0, r1, r2, r3⟩, f0⟩ := blk4 HB3.out
  rw [HX.out.2] at he
  clear hk3
  rcases he with ⟨n, hn, rfl⟩ | ⟨hn, z, t, p, rfl⟩
  · have hle : decV (s.data.toList.take m) ≤ 9223372036854775807 := Nat.le_of_not_lt fun h => HP.out.2 (by omega) n hn
    have HN : Hid (n = (decV (s.data.toList.take m) : Int)) := by
      have := HP.out.1 hle
      rw [hn] at this
      injection this
    have HO := HD.out
    rw [if_pos hle] at HO
    have HO := hid HO
    clear hle hn
    go_wp2_with fail
    refine bodyPost_ret (v := .tuple #[.agg #[.int .i64 1, .string ⟨#[]⟩, .int .i64 n, .int .i64 0], .int .i64 m]) (by simp [results, Tryz.results78, go_sem, r0, r1, r2, r3]) rfl ⟨?_, by have kk := K3.out; exact Keeps.K⟩
    rw [HO.out, HN.out]
    rfl
  · have hle : ¬ decV (s.data.toList.take m) ≤ 9223372036854775807 := fun h => hn _ (HP.out.1 h)
    have HO := HD.out
    rw [if_neg hle] at HO
    have HO := hid HO
    clear hle hn
    go_wp2_with fail
    refine bodyPost_ret (v := .tuple #[.agg #[.int .i64 0, .string ⟨#[]⟩, .int .i64 0, .int .i64 0], .int .i64 0]) (by simp [results, Tryz.results78, go_sem, r0, r1, r2, r3]) rfl ⟨?_, by have kk := K3.out; exact Keeps.K⟩
    rw [HO.out]
    rfl

set_option maxRecDepth 100000 in
set_option maxHeartbeats 4000000 in
theorem lxOne_name (s : ByteArray) (w : World) (h0 : 0 < s.size) (hs : s.size ≤ 1000000) (hc : clsL s.data.toList = 1) :
    Calls Tryz.prog 78 #[.string s, .int .i64 1] w fun e w' => e = .returned (oneV (oneD s.data.toList)) ∧ Keeps [] w w' := by
  have hl : s.data.toList.length = s.size := Array.length_toList
  have hne : s.data.toList ≠ [] := by intro h; rw [h] at hl; simp at hl; omega
  obtain ⟨m, hm⟩ : ∃ m, runL 1 2 s.data.toList = m := ⟨_, rfl⟩
  have hm2 : m ≤ s.size := by rw [← hm, ← hl]; exact runL_le 1 2 _ _ (Nat.le_refl _)
  have HD : Hid (oneD s.data.toList = if m ≤ 24 then some (⟨3, s.data.toList.take m, 0, 0⟩, m) else none) := by
    show _ = _
    unfold oneD
    rw [if_neg (by rw [hc]; decide), if_pos hc, hm]
  have HR := hid (fun w1 => lxRun_any s 1 2 w1 hs (by decide) (by decide))
  rw [hm] at HR
  have hmI : (m : Int) ≤ (s.size : Int) := by omega
  have HX := hid (str_take s m)
  clear hl hne hm hc
  go_enter Tryz.func78, Tryz.ntmps78
  go_wp2_with fail
  refine (HR.out _).mono ?_
  rintro e w2 ⟨rfl, hk⟩
  have K2 : Hid (Keeps [] w w2) := Keeps.trans (by exact Keeps.K) hk (fun _ _ h => h)
  have HB2 : Hid (w2.heap[w.heap.size]? = some (.cells #[.int .i64 0, .string ⟨#[]⟩, .int .i64 0, .int .i64 0] 93 (0, 0))) := (hk.block _ (by simp) (by simp)).trans (heap_alloc_new _ _)
  obtain ⟨⟨r0, r1, r2, r3⟩, f0⟩ := blk4 HB2.out
  clear hk
  by_cases hle : m ≤ 24
  · have HO := HD.out
    rw [if_pos hle] at HO
    have HO := hid HO
    have hI : (m : Int) ≤ 24 := by omega
    clear hle
    go_wp2_with fail
    refine bodyPost_ret (v := .tuple #[.agg #[.int .i64 3, .string (s.extract 0 m), .int .i64 0, .int .i64 0], .int .i64 m]) (by simp [results, Tryz.results78, go_sem, r0, r1, r2, r3]) rfl ⟨?_, by have kk := K2.out; exact Keeps.K⟩
    rw [HO.out, HX.out.1]
    rfl
  · have HO := HD.out
    rw [if_neg hle] at HO
    have HO := hid HO
    have hI : 24 < (m : Int) := by omega
    clear hle
    go_wp2_with fail
    refine bodyPost_ret (v := .tuple #[.agg #[.int .i64 0, .string ⟨#[]⟩, .int .i64 0, .int .i64 0], .int .i64 0]) (by simp [results, Tryz.results78, go_sem, r0, r1, r2, r3]) rfl ⟨?_, by have kk := K2.out; exact Keeps.K⟩
    rw [HO.out]
    rfl

theorem unqGo_len : ∀ (f : Nat) (l acc : List UInt8) (p : Nat) (t : List UInt8) (q : Nat), unqGo f l acc p = some (t, q) → t.length + 4 * p ≤ acc.length + 4 * q
  | 0, _, _, _, _, _, h => by cases h
  | f + 1, l, acc, p, t, q, h => by
    have hpos := unqGo_pos _ _ _ _ _ _ h
    rw [unqGo_succ] at h
    by_cases hne : l = []
    · rw [if_pos hne] at h; cases h
    · have hw := Lib.decodeL_width l
      rw [if_neg hne] at h
      split at h
      · injection h with h
        injection h with h1 h2
        subst h1
        omega
      · split at h
        · split at h
          · cases h
          · have ih := unqGo_len f _ _ _ t q h
            have he := enc_len4 (escL l).1
            rw [List.length_append] at ih
            omega
        · split at h
          · cases h
          · have ih := unqGo_len f _ _ _ t q h
            have he := enc_len4 (Lib.decodeL l).1
            rw [List.length_append] at ih
            omega
theorem unqL_len {l t : List UInt8} {q : Nat} (h : unqL l = some (t, q)) : t.length ≤ 4 * q := by
  rcases l with _ | ⟨b, r⟩
  · cases h
  · rw [unqL_cons] at h
    split at h
    · have := unqGo_len _ _ _ _ _ _ h
      simp at this
      omega
    · cases h

set_option maxRecDepth 100000 in
set_option maxHeartbeats 4000000 in
theorem lxOne_text (s : ByteArray) (c : Nat) (w : World) (hT : Tabs w) (h0 : 0 < s.size) (hs : s.size ≤ 1000000) (hc : clsL s.data.toList = c) (hc1 : c ≠ 1) (hc2 : c ≠ 2) (h34 : s.data.toList.head? = some 34) :
    Calls Tryz.prog 78 #[.string s, .int .i64 c] w fun e w' => e = .returned (oneV (oneD s.data.toList)) ∧ Keeps [] w w' := by
  have hl : s.data.toList.length = s.size := Array.length_toList
  have hc0 : s[0]'h0 = 34 := by
    have := byte_drop s 0 h0
    rw [List.drop_zero] at this
    rw [this] at h34
    simpa using h34
  have HD : Hid (oneD s.data.toList = match unqL s.data.toList with | none => none | some (t, k) => if runesL t ≤ 100 then some (⟨2, t, 0, 0⟩, k) else none) := by
    show _ = _
    unfold oneD
    rw [if_neg (by rw [hc]; exact hc2), if_neg (by rw [hc]; exact hc1), if_pos h34]
    rfl
  have d1 : ((c : Int) == 2) = false := by simp; omega
  have d2 : ((c : Int) == 1) = false := by simp; omega
  have HS : Hid (∀ t k, unqL s.data.toList = some (t, k) → t.length ≤ 4000000) := by
    intro t k h
    have h2 := unqL_len h
    have h3 := unqL_pos h
    omega
  have HT := hid hT
  have hsI : (0 : Int) < (s.size : Int) := by omega
  clear hl hc hc1 hc2 h34 hT
  go_enter Tryz.func78, Tryz.ntmps78
  go_wp2_with fail
  refine (unquoted_any s _ (HT.out.k (by exact Keeps.K)) hs).mono ?_
  rintro e w2 ⟨rfl, hk⟩
  have K2 : Hid (Keeps [] w w2) := Keeps.trans (by exact Keeps.K) hk (fun _ _ h => h)
  have HB2 : Hid (w2.heap[w.heap.size]? = some (.cells #[.int .i64 0, .string ⟨#[]⟩, .int .i64 0, .int .i64 0] 93 (0, 0))) := (hk.block _ (by simp) (by simp)).trans (heap_alloc_new _ _)
  have z2 : w.heap.size < w2.heap.size := by have := hk.size; simp at this; omega
  obtain ⟨⟨r0, r1, r2, r3⟩, f0⟩ := blk4 HB2.out
  clear hk
  rcases hu : unqL s.data.toList with _ | ⟨t, k⟩
  · rw [hu] at HD
    unfold unqV
    go_wp2_with fail
    refine bodyPost_ret (v := .tuple #[.agg #[.int .i64 0, .string ⟨#[]⟩, .int .i64 0, .int .i64 0], .int .i64 0]) (by simp [results, Tryz.results78, go_sem, r0, r1, r2, r3]) rfl ⟨?_, by have kk := K2.out; exact Keeps.K⟩
    rw [HD.out]
    rfl
  · have HL := hid (HS.out t k hu)
    have HRC : Hid (Lib.runeCount (str t) = runesL t) := (pieces_count (str t)).symm
    rw [hu] at HD
    clear hu r0 r1 r2 r3 f0
    unfold unqV
    dsimp only
    go_wp2_with fail
    refine (ruCount_any (str t) _ (by show t.length < _; have := HL.out; omega)).mono ?_
    rintro e w3 ⟨rfl, hk3⟩
    have K3 : Hid (Keeps [] w w3) := K2.out.trans (Keeps.trans (by exact Keeps.K) hk3 (fun _ _ h => h)) (fun _ _ h => h)
    have HB3 : Hid (w3.heap[w.heap.size]? = some (.cells #[.int .i64 0, .string ⟨#[]⟩, .int .i64 0, .int .i64 0] 93 (0, 0))) := (hk3.block _ z2 (by simp)).trans HB2.out
    obtain ⟨⟨r0, r1, r2, r3⟩, f0⟩ := blk4 HB3.out
    rw [HRC.out]
    clear hk3
    by_cases hle : runesL t ≤ 100
    · have HO := HD.out
      try dsimp only at HO
      rw [if_pos hle] at HO
      have HO := hid HO
      have hI : (runesL t : Int) ≤ 100 := by omega
      clear hle
      go_wp2_with fail
      refine bodyPost_ret (v := .tuple #[.agg #[.int .i64 2, .string (str t), .int .i64 0, .int .i64 0], .int .i64 k]) (by simp [results, Tryz.results78, go_sem, r0, r1, r2, r3]) rfl ⟨?_, by have kk := K3.out; exact Keeps.K⟩
      rw [HO.out]
      rfl
    · have HO := HD.out
      try dsimp only at HO
      rw [if_neg hle] at HO
      have HO := hid HO
      have hI : 100 < (runesL t : Int) := by omega
      clear hle
      go_wp2_with fail
      refine bodyPost_ret (v := .tuple #[.agg #[.int .i64 0, .string ⟨#[]⟩, .int .i64 0, .int .i64 0], .int .i64 0]) (by simp [results, Tryz.results78, go_sem, r0, r1, r2, r3]) rfl ⟨?_, by have kk := K3.out; exact Keeps.K⟩
      rw [HO.out]
      rfl

def sg (j : Nat) : List UInt8 := [[60, 61], [62, 61], [33, 61]].getD j []
theorem sign_two {c : UInt8} {t : List UInt8} {j : Nat} (hj : j < 3) (h : Lib.hasPrefix (c :: t) (sg j) = true) : signL (c :: t) = 2 ∧ (c :: t).take 2 = sg j := by
  rcases t with _ | ⟨d, t⟩
  · obtain rfl | rfl | rfl : j = 0 ∨ j = 1 ∨ j = 2 := by omega
    all_goals simp [Lib.hasPrefix, sg] at h
  · rw [signL_cons]
    obtain rfl | rfl | rfl : j = 0 ∨ j = 1 ∨ j = 2 := by omega
    all_goals
      simp [Lib.hasPrefix, sg, List.isPrefixOf] at h
      obtain ⟨h1, h2⟩ := h
      subst h1; subst h2
      exact ⟨rfl, rfl⟩
theorem sign_not2 {c : UInt8} {t : List UInt8} (h : ∀ j, j < 3 → Lib.hasPrefix (c :: t) (sg j) = false) : signL (c :: t) = if signs.contains c then 1 else 0 := by
  rw [signL_cons, if_neg]
  rintro ⟨h1, h2⟩
  rcases t with _ | ⟨d, t⟩
  · cases h2
  · have hd : d = 61 := by simpa using h2
    subst hd
    rcases h1 with rfl | rfl | rfl
    · have := h 0 (by decide); simp [Lib.hasPrefix, sg, List.isPrefixOf] at this
    · have := h 1 (by decide); simp [Lib.hasPrefix, sg, List.isPrefixOf] at this
    · have := h 2 (by decide); simp [Lib.hasPrefix, sg, List.isPrefixOf] at this
theorem sign_fin : ∀ c : Fin 256, (if signs.contains (UInt8.ofNat c.val) then 0 ≤ Lib.indexByte signs (UInt8.ofNat c.val) else Lib.indexByte signs (UInt8.ofNat c.val) < 0) := by decide +kernel
theorem sign_idx (c : UInt8) : (if signs.contains c then 0 ≤ Lib.indexByte signs c else Lib.indexByte signs c < 0) := by
  have h := sign_fin ⟨c.toNat, c.toNat_lt⟩
  have e : UInt8.ofNat c.toNat = c := UInt8.toNat_inj.1 (by rw [ofNat_toNat _ c.toNat_lt])
  simp only [e] at h
  exact h

set_option maxRecDepth 100000 in
set_option maxHeartbeats 4000000 in
theorem lxOne_sign (s : ByteArray) (c : Nat) (w : World) (h0 : 0 < s.size) (hs : s.size ≤ 1000000) (hc : clsL s.data.toList = c) (hc1 : c ≠ 1) (hc2 : c ≠ 2) (h34 : s.data.toList.head? ≠ some 34) :
    Calls Tryz.prog 78 #[.string s, .int .i64 c] w fun e w' => e = .returned (oneV (oneD s.data.toList)) ∧ Keeps [] w w' := by
  have ix0 : ∀ w : World, (Instr.index 129 (.agg #[.string ⟨#[60, 61]⟩, .string ⟨#[62, 61]⟩, .string ⟨#[33, 61]⟩]) (.int .i64 0)).run Tryz.prog w = .ok (.string ⟨#[60, 61]⟩) w := fun _ => by kernel_rfl
  have ix1 : ∀ w : World, (Instr.index 129 (.agg #[.string ⟨#[60, 61]⟩, .string ⟨#[62, 61]⟩, .string ⟨#[33, 61]⟩]) (.int .i64 1)).run Tryz.prog w = .ok (.string ⟨#[62, 61]⟩) w := fun _ => by kernel_rfl
  have ix2 : ∀ w : World, (Instr.index 129 (.agg #[.string ⟨#[60, 61]⟩, .string ⟨#[62, 61]⟩, .string ⟨#[33, 61]⟩]) (.int .i64 2)).run Tryz.prog w = .ok (.string ⟨#[33, 61]⟩) w := fun _ => by kernel_rfl
  have hb := byte_drop s 0 h0
  rw [List.drop_zero] at hb
  obtain ⟨b, hbb⟩ : ∃ b, s[0]'h0 = b := ⟨_, rfl⟩
  obtain ⟨t, ht⟩ : ∃ t, s.data.toList = b :: t := by
    rcases e : s.data.toList with _ | ⟨x, t⟩
    · rw [e] at hb; cases hb
    · rw [e] at hb
      have hx : x = b := by rw [← hbb]; simpa using hb
      exact ⟨t, by rw [hx]⟩
  have hb34 : ((b.toNat : Int) == 34) = false := by
    rw [ht] at h34
    simp
    intro h
    exact h34 (by rw [show b = 34 from UInt8.toNat_inj.1 (by show b.toNat = 34; omega)]; rfl)
  have HD : Hid (oneD s.data.toList = if signL (b :: t) = 0 then none else some (⟨4, (b :: t).take (signL (b :: t)), 0, 0⟩, signL (b :: t))) := by
    show _ = _
    unfold oneD
    rw [if_neg (by rw [hc]; exact hc2), if_neg (by rw [hc]; exact hc1), if_neg h34, ht]
  have d1 : ((c : Int) == 2) = false := by simp; omega
  have d2 : ((c : Int) == 1) = false := by simp; omega
  have HX := hid (str_take s 1)
  have HTT := hid ht
  have hsI : (0 : Int) < (s.size : Int) := by omega
  have hsI2 : (1 : Int) ≤ (s.size : Int) := by omega
  clear hb hc hc1 hc2 h34 ht
  go_enter Tryz.func78, Tryz.ntmps78
  go_wp2_with fail
  go_loopw [66] (fun i wr => ∃ k : Nat, k ≤ 3 ∧ i = .int .i64 k ∧ Hid ((∀ j, j < k → Lib.hasPrefix (b :: t) (sg j) = false) ∧ Keeps [] w wr ∧ wr.heap[w.heap.size]? = some (.cells #[.int .i64 0, .string ⟨#[]⟩, .int .i64 0, .int .i64 0] 93 (0, 0)))) (fun i _ => 3 - (intOf i).toNat)
  case atStart => exact ⟨0, Nat.zero_le _, rfl, fun j h => by omega, by exact Keeps.K, heap_alloc_new _ _⟩
  case round =>
    obtain ⟨k, hk, rfl, HW⟩ := hrel
    obtain ⟨⟨r0, r1, r2, r3⟩, f0⟩ := blk4 HW.out.2.2
    by_cases hlt : k < 3
    · obtain rfl | rfl | rfl : k = 0 ∨ k = 1 ∨ k = 2 := by omega
      · clear ix1 ix2
        go_wp2_with fail
        refine (Tryz.strings_HasPrefix _ _ _).mono ?_
        rintro e w2 ⟨rfl, rfl⟩
        rw [HTT.out]
        rw [show (⟨#[60, 61]⟩ : ByteArray).data.toList = sg 0 from rfl]
        rcases hp : Lib.hasPrefix (b :: t) (sg 0) with _ | _
        · have HN : Hid (∀ j, j < 1 → Lib.hasPrefix (b :: t) (sg j) = false) := fun j hj => by rcases Nat.lt_or_ge j 0 with h | h; exact HW.out.1 j h; obtain rfl : j = 0 := (by omega); exact hp
          clear hp
          go_wp2_with fail
          go_roundw
          case rel => exact ⟨1, by decide, by go_num, HN.out, HW.out.2.1, HW.out.2.2⟩
          case measure => simp [intOf]
        · have HO := HD.out
          have h2 := sign_two (j := 0) (by decide) hp
          rw [h2.1, if_neg (by decide), h2.2] at HO
          have HO := hid HO
          clear hp h2
          go_wp2_with fail
          refine bodyPost_ret (v := .tuple #[.agg #[.int .i64 4, .string ⟨#[60, 61]⟩, .int .i64 0, .int .i64 0], .int .i64 2]) (by simp [results, Tryz.results78, go_sem, r0, r1, r2, r3]) rfl ⟨?_, by have kk := HW.out.2.1; exact Keeps.K⟩
          rw [HO.out]
          rfl
      · clear ix0 ix2
        go_wp2_with fail
        refine (Tryz.strings_HasPrefix _ _ _).mono ?_
        rintro e w2 ⟨rfl, rfl⟩
        rw [HTT.out]
        rw [show (⟨#[62, 61]⟩ : ByteArray).data.toList = sg 1 from rfl]
        rcases hp : Lib.hasPrefix (b :: t) (sg 1) with _ | _
        · have HN : Hid (∀ j, j < 2 → Lib.hasPrefix (b :: t) (sg j) = false) := fun j hj => by rcases Nat.lt_or_ge j 1 with h | h; exact HW.out.1 j h; obtain rfl : j = 1 := (by omega); exact hp
          clear hp
          go_wp2_with fail
          go_roundw
          case rel => exact ⟨2, by decide, by go_num, HN.out, HW.out.2.1, HW.out.2.2⟩
          case measure => simp [intOf]
        · have HO := HD.out
          have h2 := sign_two (j := 1) (by decide) hp
          rw [h2.1, if_neg (by decide), h2.2] at HO
          have HO := hid HO
          clear hp h2
          go_wp2_with fail
          refine bodyPost_ret (v := .tuple #[.agg #[.int .i64 4, .string ⟨#[62, 61]⟩, .int .i64 0, .int .i64 0], .int .i64 2]) (by simp [results, Tryz.results78, go_sem, r0, r1, r2, r3]) rfl ⟨?_, by have kk := HW.out.2.1; exact Keeps.K⟩
          rw [HO.out]
          rfl
      · clear ix0 ix1
        go_wp2_with fail
        refine (Tryz.strings_HasPrefix _ _ _).mono ?_
        rintro e w2 ⟨rfl, rfl⟩
        rw [HTT.out]
        rw [show (⟨#[33, 61]⟩ : ByteArray).data.toList = sg 2 from rfl]
        rcases hp : Lib.hasPrefix (b :: t) (sg 2) with _ | _
        · have HN : Hid (∀ j, j < 3 → Lib.hasPrefix (b :: t) (sg j) = false) := fun j hj => by rcases Nat.lt_or_ge j 2 with h | h; exact HW.out.1 j h; obtain rfl : j = 2 := (by omega); exact hp
          clear hp
          go_wp2_with fail
          go_roundw
          case rel => exact ⟨3, by decide, by go_num, HN.out, HW.out.2.1, HW.out.2.2⟩
          case measure => simp [intOf]
        · have HO := HD.out
          have h2 := sign_two (j := 2) (by decide) hp
          rw [h2.1, if_neg (by decide), h2.2] at HO
          have HO := hid HO
          clear hp h2
          go_wp2_with fail
          refine bodyPost_ret (v := .tuple #[.agg #[.int .i64 4, .string ⟨#[33, 61]⟩, .int .i64 0, .int .i64 0], .int .i64 2]) (by simp [results, Tryz.results78, go_sem, r0, r1, r2, r3]) rfl ⟨?_, by have kk := HW.out.2.1; exact Keeps.K⟩
          rw [HO.out]
          rfl
    · obtain rfl : k = 3 := by omega
      have h2 := sign_not2 HW.out.1
      have HO := HD.out
      rw [h2] at HO
      have hi := sign_idx b
      clear h2 ix0 ix1 ix2
      go_wp2_with fail
      refine (Tryz.strings_IndexByte _ _ _).mono ?_
      rintro e w2 ⟨rfl, rfl⟩
      rw [show ((b.toNat : Int)).toNat.toUInt8 = b from UInt8.toNat_inj.1 (by simp), show (⟨#[43, 45, 42, 47, 37, 40, 41, 44, 61, 60, 62, 38, 124, 33]⟩ : ByteArray).data.toList = signs from rfl]
      obtain ⟨x, hx⟩ : ∃ x, Lib.indexByte signs b = x := ⟨_, rfl⟩
      rw [hx] at hi ⊢
      clear hx
      rcases hb : signs.contains b with _ | _
      · rw [hb] at hi HO
        have HO := hid HO
        have hx : x < 0 := hi
        clear hi hb
        go_wp2_with fail
        refine bodyPost_ret (v := .tuple #[.agg #[.int .i64 0, .string ⟨#[]⟩, .int .i64 0, .int .i64 0], .int .i64 0]) (by simp [results, Tryz.results78, go_sem, r0, r1, r2, r3]) rfl ⟨?_, by have kk := HW.out.2.1; exact Keeps.K⟩
        rw [HO.out]
        rfl
      · rw [hb] at hi HO
        have HO := hid HO
        have hx : 0 ≤ x := hi
        clear hi hb
        go_wp2_with fail
        refine bodyPost_ret (v := .tuple #[.agg #[.int .i64 4, .string (s.extract 0 1), .int .i64 0, .int .i64 0], .int .i64 1]) (by simp [results, Tryz.results78, go_sem, r0, r1, r2, r3]) rfl ⟨?_, by have kk := HW.out.2.1; exact Keeps.K⟩
        rw [HO.out, HX.out.1, HTT.out]
        rfl
theorem lxOne_any (s : ByteArray) (c : Nat) (w : World) (hT : Tabs w) (hE : Errs w) (h0 : 0 < s.size) (hs : s.size ≤ 1000000) (hc : clsL s.data.toList = c) :
    Calls Tryz.prog 78 #[.string s, .int .i64 c] w fun e w' => e = .returned (oneV (oneD s.data.toList)) ∧ Keeps [] w w' := by
  by_cases h2 : c = 2
  · subst h2; exact lxOne_num s w hE h0 hs hc
  · by_cases h1 : c = 1
    · subst h1; exact lxOne_name s w h0 hs hc
    · by_cases h34 : s.data.toList.head? = some 34
      · exact lxOne_text s c w hT h0 hs hc h1 h2 h34
      · exact lxOne_sign s c w h0 hs hc h1 h2 h34

end Go.Proofs.YtnjdepojmnniaaaGreatDoor
