/- Joined of RfH, RfI. -/
import Derived.Test.YtnjdepojmnniaaaGreatDoorQ05
import Derived.Lib.ConvBytes
import Derived.Test.YtnjdepojmnniaaaGreatDoorQ04

set_option linter.unusedSimpArgs false
set_option linter.unusedVariables false

/- The rune behind a sign: escape. -/
namespace Go.Proofs.YtnjdepojmnniaaaGreatDoor
open Go Go.RowKit

theorem bits_or_i32_nat (a b : Nat) (ha : a < 2147483648) (hb : b < 2147483648) : bits .or .i32 (a : Int) (b : Int) = ((a ||| b : Nat) : Int) := by
  have hx : a ||| b < 2 ^ 31 := Nat.or_lt_two_pow (by omega) (by omega)
  have h1 : (BitVec.ofInt 32 (a : Int)).toNat = a := by
    rw [BitVec.ofInt_natCast, BitVec.toNat_ofNat]; exact Nat.mod_eq_of_lt (by omega)
  have h2 : (BitVec.ofInt 32 (b : Int)).toNat = b := by
    rw [BitVec.ofInt_natCast, BitVec.toNat_ofNat]; exact Nat.mod_eq_of_lt (by omega)
  show IntKind.i32.wrap ((BitVec.ofInt 32 (a : Int) ||| BitVec.ofInt 32 (b : Int)).toNat : Int) = _
  rw [BitVec.toNat_or, h1, h2, IntKind.wrap_i32]
  omega
theorem or16 (n d : Nat) (hn : n ≤ 4095) (hd : d < 16) : bits .or .i32 ((n : Int) * 16) (d : Int) = ((n * 16 + d : Nat) : Int) := by
  have e : (n : Int) * 16 = ((n * 16 : Nat) : Int) := by push_cast; rfl
  rw [e, bits_or_i32_nat _ _ (by omega) (by omega)]
  congr 1
  have h4 : d < 2 ^ 4 := by omega
  have := Nat.two_pow_add_eq_or_of_lt h4 n
  rw [Nat.mul_comm n 16, show (16 : Nat) = 2 ^ 4 from rfl, ← this]
theorem idx_fin : ∀ c : Fin 256, Lib.indexByte [48, 49, 50, 51, 52, 53, 54, 55, 56, 57, 97, 98, 99, 100, 101, 102] (UInt8.ofNat c.val) = match hexV (UInt8.ofNat c.val) with
    | none => -1
    | some d => (d : Int) := by decide +kernel
theorem idx_hex (c : UInt8) : Lib.indexByte [48, 49, 50, 51, 52, 53, 54, 55, 56, 57, 97, 98, 99, 100, 101, 102] c = match hexV c with
    | none => -1
    | some d => (d : Int) := by
  have h := idx_fin ⟨c.toNat, c.toNat_lt⟩
  have e : UInt8.ofNat c.toNat = c := UInt8.toNat_inj.1 (by rw [ofNat_toNat _ c.toNat_lt])
  simp only [e] at h
  exact h
theorem hexV_lt {c : UInt8} {d : Nat} (h : hexV c = some d) : d < 16 := by
  unfold hexV at h
  split at h
  · injection h with h; omega
  · split at h
    · injection h with h; omega
    · cases h
theorem escL_hx {a b : UInt8} {t : List UInt8} (h1 : ¬ (b.toNat = 34 ∨ b.toNat = 92)) (h2 : b.toNat = 117) (h4 : 4 ≤ t.length) : escL (a :: b :: t) = match hx (t.take 4) 0 with
    | none => (0, 0)
    | some v => if 55296 ≤ v ∧ v ≤ 57343 then (0, 0) else (v, 6) := by
  match t, h4 with
  | x :: y :: z :: u :: r, _ =>
    show (if b.toNat = 34 ∨ b.toNat = 92 then (b.toNat, 2) else if b.toNat = 117 then _ else _) = _
    rw [if_neg h1, if_pos h2]
    show (match hexV x, hexV y, hexV z, hexV u with
        | some a, some b, some c, some d => if 55296 ≤ ((a * 16 + b) * 16 + c) * 16 + d ∧ ((a * 16 + b) * 16 + c) * 16 + d ≤ 57343 then (0, 0) else (((a * 16 + b) * 16 + c) * 16 + d, 6)
        | _, _, _, _ => (0, 0)) = match hx [x, y, z, u] 0 with
      | none => (0, 0)
      | some v => if 55296 ≤ v ∧ v ≤ 57343 then (0, 0) else (v, 6)
    simp only [hx]
    rcases hexV x with _ | a <;> rcases hexV y with _ | b <;> rcases hexV z with _ | c <;> rcases hexV u with _ | d <;> simp

theorem keeps_bytes (w : World) (e : TypeId) (q : ByteArray) : Keeps [] w (Lib.bytesWorld w e q) :=
  ⟨rfl, rfl, rfl, by rw [Lib.bytesWorld_size]; omega, fun k hk _ => Lib.bytesWorld_at_old w e q k hk⟩
set_option maxRecDepth 100000 in
set_option maxHeartbeats 1600000 in
theorem escape_hex (s : ByteArray) (w : World) (h6 : 6 ≤ s.size) (hs : s.size ≤ 1000000) (b : UInt8) (hb : s[1]'(by omega) = b) (hn : ((b.toNat : Int) == 117) = true) (c1 : ((b.toNat : Int) == 34) = false) (c2 : ((b.toNat : Int) == 92) = false) :
    Calls Tryz.prog 105 #[.string s] w fun e w' => e = .returned (.tuple #[.int .i32 (escL s.data.toList).1, .int .i64 (escL s.data.toList).2]) ∧ Keeps [] w w' := by
  have h6' : (6 : Int) ≤ (s.size : Int) := by omega
  have hn1 : (b.toNat : Int) = 117 := by simpa using hn
  have hn2 : ((b.toNat : Int) != 117) = false := by rw [bne, hn]; rfl
  have hl : s.data.toList.length = s.size := Array.length_toList
  obtain ⟨q, hq⟩ : ∃ q, s.extract 2 6 = q := ⟨_, rfl⟩
  have hq4 : q.size = 4 := by rw [← hq, ByteArray.size_extract]; omega
  have hql : q.data.toList = (s.data.toList.drop 2).take 4 := by
    have := extract_str s 2 4
    rw [hq] at this
    rw [this]; rfl
  have HE : Hid (escL s.data.toList = match hx q.data.toList 0 with
    | none => (0, 0)
    | some v => if 55296 ≤ v ∧ v ≤ 57343 then (0, 0) else (v, 6)) := by
    show _ = _
    have e0 := byte_drop s 0 (by omega)
    have e1 := byte_drop s 1 (by omega)
    rw [List.drop_zero] at e0
    rw [hb] at e1
    rw [e0, e1, escL_hx (by omega) (by omega) (by rw [List.length_drop, hl]; omega), ← hql]
  have hcv := Lib.run_convert_string_bytes (P := Tryz.prog) w 9 36 5 q Tryz.underlying9 Tryz.underlying36 Tryz.underlying5
  rw [hq4] at hcv
  obtain ⟨cap, hcap⟩ : ∃ cap, grownCap w 4 0 5 = cap := ⟨_, rfl⟩
  rw [hcap] at hcv
  have HC : Hid (∀ j, j < 4 → (Lib.bytesWorld w 5 q).cell? ⟨w.heap.size, j, none⟩ = some (.int .u8 (q.data.toList.getD j 0).toNat)) := fun j hj => Lib.bytesWorld_cell w 5 q j (by omega)
  have HKB : Hid (Keeps [] w (Lib.bytesWorld w 5 q)) := keeps_bytes w 5 q
  obtain ⟨wB, hwB⟩ : ∃ wB, Lib.bytesWorld w 5 q = wB := ⟨_, rfl⟩
  rw [hwB] at hcv HC HKB
  have HQL : Hid (q.data.toList.length = 4) := (Array.length_toList.trans hq4 : q.data.toList.length = 4)
  clear hl hql hwB hcap
  go_enter Tryz.func105, Tryz.ntmps105
  go_wp2_with fail
  clear hcv hq hq4
  go_loopw [36, 4] (fun iv nv wr => ∃ (j n : Nat), j ≤ 4 ∧ n < 16 ^ j ∧ iv = .int .i64 j ∧ nv = .int .i32 n ∧ Hid (hx q.data.toList 0 = hx (q.data.toList.drop j) n ∧ wr = wB)) (fun iv _ _ => 4 - (intOf iv).toNat)
  case atStart => exact ⟨0, 0, by omega, by simp, rfl, rfl, rfl, rfl⟩
  case round =>
    obtain ⟨j, n, hj, hnj, rfl, rfl, HV⟩ := hrel
    have j0 : (0 : Int) ≤ (j : Int) := Int.natCast_nonneg _
    have n0 : (0 : Int) ≤ (n : Int) := Int.natCast_nonneg _
    have hn5 : n ≤ 65535 := by
      have h : 16 ^ j ≤ 16 ^ 4 := Nat.pow_le_pow_right (by decide) hj
      have e : (16 : Nat) ^ 4 = 65536 := by decide
      omega
    obtain rfl := HV.out.2
    by_cases hj4 : j < 4
    · have hj4' : (j : Int) < 4 := by omega
      have hn3 : n ≤ 4095 := by
        have h : 16 ^ j ≤ 16 ^ 3 := Nat.pow_le_pow_right (by decide) (by omega)
        have e : (16 : Nat) ^ 3 = 4096 := by decide
        omega
      have hnI : (n : Int) ≤ 4095 := by omega
      have y := HC.out j hj4
      obtain ⟨c, hc⟩ : ∃ c, q.data.toList.getD j 0 = c := ⟨_, rfl⟩
      rw [hc] at y
      have HA : Hid (q.data.toList.drop j = c :: q.data.toList.drop (j + 1)) := by
        show _ = _
        have hlt : j < q.data.toList.length := by rw [HQL.out]; exact hj4
        rw [List.drop_eq_getElem_cons hlt]
        congr 1
        rw [← hc, List.getD_eq_getElem?_getD, List.getElem?_eq_getElem hlt]
        rfl
      have c256 : c.toNat < 256 := c.toNat_lt
      have HI : Hid (Lib.indexByte [48, 49, 50, 51, 52, 53, 54, 55, 56, 57, 97, 98, 99, 100, 101, 102] ((c.toNat : Int)).toNat.toUInt8 = match hexV c with
        | none => -1
        | some d => (d : Int)) := by
        show _ = _
        rw [← idx_hex c]
        congr 1
        exact UInt8.toNat_inj.1 (by simp)
      have HNJ := hid hnj
      clear hc hn5 hn3 hnj
      go_wp2_with fail
      refine (Tryz.strings_IndexByte _ _ _).mono ?_
      rintro e w2 ⟨rfl, rfl⟩
      rw [show (⟨#[48, 49, 50, 51, 52, 53, 54, 55, 56, 57, 97, 98, 99, 100, 101, 102]⟩ : ByteArray).data.toList = [48, 49, 50, 51, 52, 53, 54, 55, 56, 57, 97, 98, 99, 100, 101, 102] from rfl, HI.out]
      rcases hh : hexV c with _ | d
      · dsimp only
        have HE2 : Hid (escL s.data.toList = (0, 0)) := by
          show _ = _
          have e : hx q.data.toList 0 = none := by
            rw [HV.out.1, HA.out]
            show (match hexV c with | none => none | some d => hx _ (n * 16 + d)) = _
            rw [hh]
          rw [HE.out, e]
        clear hh
        go_wp2_with fail
        go_ret2
        exact ⟨by rw [HE2.out]; rfl, HKB.out⟩
      · dsimp only
        have hd := hexV_lt hh
        have hdI : (d : Int) < 16 := by omega
        have d0 : (0 : Int) ≤ (d : Int) := Int.natCast_nonneg _
        have hor := or16 n d (by omega) hd
        have HS : Hid (hx q.data.toList 0 = hx (q.data.toList.drop (j + 1)) (n * 16 + d)) := by
          show _ = _
          rw [HV.out.1, HA.out]
          show (match hexV c with | none => none | some d => hx _ (n * 16 + d)) = _
          rw [hh]
        clear hh hd
        go_wp2_with fail
        exact ⟨⟨j + 1, n * 16 + d, by omega, by have h := HNJ.out; rw [Nat.pow_succ]; omega, by simp, by simp, HS.out, trivial⟩, by simp [intOf]; omega⟩
    · have hj4' : (4 : Int) ≤ (j : Int) := by omega
      obtain rfl : j = 4 := by omega
      have HX : Hid (hx q.data.toList 0 = some n) := by
        show _ = _
        rw [HV.out.1, List.drop_of_length_le (by rw [HQL.out]; omega)]
        rfl
      clear hnj
      by_cases hsur : 55296 ≤ n ∧ n ≤ 57343
      · have HE2 : Hid (escL s.data.toList = (0, 0)) := by
          show _ = _
          rw [HE.out, HX.out]
          exact if_pos hsur
        have b1 : (55296 : Int) ≤ (n : Int) := by omega
        have b2 : (n : Int) ≤ 57343 := by omega
        clear hsur
        go_wp2_with fail
        go_ret2
        exact ⟨by rw [HE2.out]; rfl, HKB.out⟩
      · have HE2 : Hid (escL s.data.toList = (n, 6)) := by
          show _ = _
          rw [HE.out, HX.out]
          exact if_neg hsur
        have hb : ((55296 : Int) ≤ (n : Int)) = False ∨ ((55296 : Int) ≤ (n : Int) ∧ ((n : Int) ≤ 57343) = False) := by simp; omega
        clear hsur
        rcases hb with b1 | ⟨b1, b2⟩
        all_goals
          go_wp2_with fail
          go_ret2
          exact ⟨by rw [HE2.out]; rfl, HKB.out⟩

theorem escL_sign {a b : UInt8} {t : List UInt8} (h : b.toNat = 34 ∨ b.toNat = 92) : escL (a :: b :: t) = (b.toNat, 2) := by
  show (if b.toNat = 34 ∨ b.toNat = 92 then (b.toNat, 2) else _) = _
  rw [if_pos h]
theorem escL_no {a b : UInt8} {t : List UInt8} (h : ¬ (b.toNat = 34 ∨ b.toNat = 92)) (h2 : b.toNat ≠ 117) : escL (a :: b :: t) = (0, 0) := by
  show (if b.toNat = 34 ∨ b.toNat = 92 then (b.toNat, 2) else if b.toNat = 117 then _ else (0, 0)) = _
  rw [if_neg h, if_neg h2]
theorem escL_short {a b : UInt8} {t : List UInt8} (h : ¬ (b.toNat = 34 ∨ b.toNat = 92)) (ht : t.length < 4) : escL (a :: b :: t) = (0, 0) := by
  by_cases h2 : b.toNat = 117
  · show (if b.toNat = 34 ∨ b.toNat = 92 then (b.toNat, 2) else if b.toNat = 117 then _ else (0, 0)) = _
    rw [if_neg h, if_pos h2]
    match t, ht with
    | [], _ => rfl
    | [_], _ => rfl
    | [_, _], _ => rfl
    | [_, _, _], _ => rfl
    | _ :: _ :: _ :: _ :: r, h => simp at h; omega
  · exact escL_no h h2
set_option maxRecDepth 100000 in
theorem escape_any (s : ByteArray) (w : World) (hs : s.size ≤ 1000000) :
    Calls Tryz.prog 105 #[.string s] w fun e w' => e = .returned (.tuple #[.int .i32 (escL s.data.toList).1, .int .i64 (escL s.data.toList).2]) ∧ Keeps [] w w' := by
  have hl : s.data.toList.length = s.size := Array.length_toList
  by_cases h1 : 1 < s.size
  · have h1' : (1 : Int) < (s.size : Int) := by omega
    have e0 := byte_drop s 0 (by omega)
    have e1 := byte_drop s 1 h1
    obtain ⟨b, hb⟩ : ∃ b, s[1]'h1 = b := ⟨_, rfl⟩
    obtain ⟨a, ha⟩ : ∃ a, s[0]'(by omega) = a := ⟨_, rfl⟩
    rw [List.drop_zero, ha] at e0
    rw [hb] at e1
    rw [e1] at e0
    have hdl : (s.data.toList.drop 2).length = s.size - 2 := by rw [List.length_drop, hl]
    have b256 : b.toNat < 256 := b.toNat_lt
    by_cases hq : b.toNat = 34 ∨ b.toNat = 92
    · have HE : Hid (escL s.data.toList = (b.toNat, 2)) := by
        show _ = _
        rw [e0, escL_sign hq]
      have hq' : ((b.toNat : Int) == 34) = true ∨ (((b.toNat : Int) == 34) = false ∧ ((b.toNat : Int) == 92) = true) := by simp; omega
      clear e0 e1 ha hdl hl hq
      rcases hq' with d1 | ⟨d1, d2⟩
      all_goals
        go_enter Tryz.func105, Tryz.ntmps105
        go_wp2_with fail
        go_ret2
        exact ⟨by rw [HE.out]; rfl, by exact Keeps.K⟩
    · have d1 : ((b.toNat : Int) == 34) = false := by simp; omega
      have d2 : ((b.toNat : Int) == 92) = false := by simp; omega
      by_cases h6 : 6 ≤ s.size
      · rcases hn : ((b.toNat : Int) == 117) with _ | _
        · have hn1 : ((b.toNat : Int) != 117) = true := by rw [bne, hn]; rfl
          have hn2 : (b.toNat : Int) ≠ 117 := by simpa using hn
          have h6' : (6 : Int) ≤ (s.size : Int) := by omega
          have HE : Hid (escL s.data.toList = (0, 0)) := by
            show _ = _
            rw [e0, escL_no hq (by omega)]
          clear e0 e1 ha hdl hl hq
          go_enter Tryz.func105, Tryz.ntmps105
          go_wp2_with fail
          go_ret2
          exact ⟨by rw [HE.out]; rfl, by exact Keeps.K⟩
        · exact escape_hex s w h6 hs b hb hn d1 d2
      · have h6' : (s.size : Int) < 6 := by omega
        have HE : Hid (escL s.data.toList = (0, 0)) := by
          show _ = _
          rw [e0, escL_short hq (by rw [hdl]; omega)]
        clear e0 e1 ha hdl hl hq h6
        go_enter Tryz.func105, Tryz.ntmps105
        go_wp2_with fail
        go_ret2
        exact ⟨by rw [HE.out]; rfl, by exact Keeps.K⟩
  · have h1' : (s.size : Int) ≤ 1 := by omega
    have h6' : (s.size : Int) < 6 := by omega
    have HE : Hid (escL s.data.toList = (0, 0)) := by
      show _ = _
      match h : s.data.toList, hl with
      | [], _ => rfl
      | [_], _ => rfl
      | _ :: _ :: r, h2 => simp at h2; omega
    clear hl h1
    go_enter Tryz.func105, Tryz.ntmps105
    go_wp2_with fail
    go_ret2
    exact ⟨by rw [HE.out]; rfl, by exact Keeps.K⟩

end Go.Proofs.YtnjdepojmnniaaaGreatDoor

/- The first rune of a text: runes.At at 0. -/
namespace Go.Proofs.YtnjdepojmnniaaaGreatDoor
open Go Go.RowKit

set_option maxRecDepth 100000 in
set_option maxHeartbeats 1600000 in
theorem ruAt_zero (s : ByteArray) (w : World) (hT : Tabs w) (h0 : 0 < s.size) (hs : s.size ≤ 1000000) :
    Calls Tryz.prog 103 #[.string s, .int .i64 0] w fun e w' => e = .returned (.tuple #[.int .i32 (Lib.decodeL s.data.toList).1, .int .i64 (Lib.decodeL s.data.toList).2, .bool true]) ∧ Keeps [] w w' := by
  have HT := hid hT
  have hx : s.extract 0 s.size = s := by simp
  have HX := hid hx
  have HG : Hid ((Lib.decodeGo s).1 = (Lib.decodeL s.data.toList).1 ∧ (Lib.decodeGo s).2 = (Lib.decodeL s.data.toList).2) := by
    have := Lib.decodeL_drop s 0
    rw [List.drop_zero] at this
    show _ ∧ _
    rw [this]
    unfold Lib.decodeGo
    rw [if_neg (by omega)]
    exact ⟨rfl, rfl⟩
  have HU : Hid ((Utf8.decode s 0).1 = (Lib.decodeL s.data.toList).1) := by
    have := Lib.decodeL_drop s 0
    rw [List.drop_zero] at this
    show _ = _
    rw [this]
  clear hT
  go_enter Tryz.func103, Tryz.ntmps103
  go_wp2_with fail
  go_loopw [] (fun wr => Hid (wr.heap[w.heap.size]? = some (.stringIter s 0) ∧ Below w.heap.size w wr)) (fun wr => 0)
  case atStart =>
    refine ⟨World.iter_heap w s 0, (Below.refl _ w).alloc (Nat.le_refl _) _⟩
  case round =>
    have HW := hrel
    obtain ⟨n, hn⟩ : ∃ n, (Utf8.decode s 0).2 = n := ⟨_, rfl⟩
    obtain ⟨r, hr⟩ : ∃ r, (Utf8.decode s 0).1 = r := ⟨_, rfl⟩
    obtain ⟨wi, hwi⟩ : ∃ wi, wr.iterAt w.heap.size s (0 + n) = wi := ⟨_, rfl⟩
    have hnx : ∀ ty, (Instr.next (.pointer (some ⟨w.heap.size, 0, none⟩)) true ty).run Tryz.prog wr = _ := fun ty => Lib.run_next_any_at wr w.heap.size s 0 ty HW.out.1 h0
    have hbw2 := Lib.below_iterAt HW.out.2 (k := w.heap.size) (Nat.le_refl _) s (0 + n)
    rw [hwi] at hbw2
    simp only [hn, hr, hwi] at hnx
    have HB2 : Hid (Keeps [] w wi) := Keeps.ofBelowSize hbw2
    rw [hr] at HU
    clear hwi hn hr hbw2
    go_wp2_with fail
    refine (uDecode_any s _ (HT.out.k HB2.out)).mono ?_
    rintro e w4 ⟨rfl, hk⟩
    have K4 : Hid (Keeps [] w w4) := HB2.out.trans hk (fun _ _ h => h)
    clear hk hnx
    rw [HG.out.2]
    go_wp2_with fail
    refine bodyPost_ret (results_tmp3 rfl _ _ _) rfl ?_
    exact ⟨by rw [HU.out]; rfl, K4.out⟩

end Go.Proofs.YtnjdepojmnniaaaGreatDoor
