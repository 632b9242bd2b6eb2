/- Joined of VaY, CmA, U8, Bytes, WireA. -/
import Derived.Test.YtnjdepojmnniaaaGreatDoorQ05
import Derived.Lib.Zigzag
import Derived.Lib.Varint
import Derived.Test.YtnjdepojmnniaaaGreatDoorQ18
import Derived.Test.YtnjdepojmnniaaaGreatDoorRows
import Derived.Test.YtnjdepojmnniaaaGreatDoorQ00
import Derived.WalkKit
import Derived.Test.YtnjdepojmnniaaaGreatDoorQ04
import Derived.Lib.AppendStr

set_option linter.unusedSimpArgs false
set_option linter.unusedVariables false

/- A value's bytes: plain. -/
namespace Go.Proofs.YtnjdepojmnniaaaGreatDoor
open Go

def intL (n : Int) : List UInt8 := Lib.uvarint (Lib.zigzag n)
def textL (s : ByteArray) : List UInt8 := intL s.size ++ s.data.toList
def putL (v : ValD) : List UInt8 := intL v.kind ++ intL v.n ++ textL v.s

theorem byte_nat (n : Nat) (h : n < 256) : (n.toUInt8).toNat = n := by simp; omega
theorem uvarint_pre (x : Nat) : ∀ (y : Nat) (t u : List UInt8), Lib.uvarint x ++ t = Lib.uvarint y ++ u → x = y ∧ t = u := by
  induction x using Nat.strongRecOn with
  | _ x ih =>
    intro y t u h
    by_cases hx : x < 128 <;> by_cases hy : y < 128
    · rw [Lib.uvarint_small hx, Lib.uvarint_small hy] at h
      have h1 := congrArg UInt8.toNat (List.cons.inj h).1
      rw [byte_nat _ (by omega), byte_nat _ (by omega)] at h1
      exact ⟨h1, (List.cons.inj h).2⟩
    · rw [Lib.uvarint_small hx, Lib.uvarint_big (by omega : 128 ≤ y)] at h
      have h1 := congrArg UInt8.toNat (List.cons.inj h).1
      rw [byte_nat _ (by omega), byte_nat _ (by omega)] at h1
      omega
    · rw [Lib.uvarint_big (by omega : 128 ≤ x), Lib.uvarint_small hy] at h
      have h1 := congrArg UInt8.toNat (List.cons.inj h).1
      rw [byte_nat _ (by omega), byte_nat _ (by omega)] at h1
      omega
    · rw [Lib.uvarint_big (by omega : 128 ≤ x), Lib.uvarint_big (by omega : 128 ≤ y)] at h
      have h1 := congrArg UInt8.toNat (List.cons.inj h).1
      rw [byte_nat _ (by omega), byte_nat _ (by omega)] at h1
      obtain ⟨h2, h3⟩ := ih (x / 128) (by omega) (y / 128) t u (List.cons.inj h).2
      exact ⟨by omega, h3⟩
theorem zigzag_inj {n m : Int} (h : Lib.zigzag n = Lib.zigzag m) : n = m := by
  unfold Lib.zigzag at h
  repeat' split at h
  all_goals omega
theorem intL_pre {n m : Int} {t u : List UInt8} (h : intL n ++ t = intL m ++ u) : n = m ∧ t = u := by
  obtain ⟨h1, h2⟩ := uvarint_pre _ _ _ _ h
  exact ⟨zigzag_inj h1, h2⟩
theorem putL_inj {v u : ValD} (h : putL v = putL u) : v = u := by
  obtain ⟨k, n, s⟩ := v
  obtain ⟨k', n', s'⟩ := u
  unfold putL textL at h
  simp only [List.append_assoc] at h
  obtain ⟨e1, h2⟩ := intL_pre h
  obtain ⟨e2, h3⟩ := intL_pre h2
  obtain ⟨_, h4⟩ := intL_pre h3
  subst e1 e2
  clear h h2 h3
  obtain ⟨⟨l⟩⟩ := s
  obtain ⟨⟨m⟩⟩ := s'
  simp at h4
  rw [h4]

end Go.Proofs.YtnjdepojmnniaaaGreatDoor

/- Commands, replies: plain. -/
namespace Go.Proofs.YtnjdepojmnniaaaGreatDoor
open Go Go.RowKit

structure CmdD where
  kind : Int
  session : Int
  seq : Int
  field : ByteArray
  version : Int
  value : ValD
def cmdV (c : CmdD) : Value := .agg #[.int .i64 c.kind, .int .i64 c.session, .int .i64 c.seq, .string c.field, .int .i64 c.version, .int .i64 c.value.kind, .int .i64 c.value.n, .string c.value.s]
structure ReplyD where
  err : Int
  n : Int
  value : ValD
def replyV (r : ReplyD) : Value := .agg #[.int .i64 r.err, .int .i64 r.n, .int .i64 r.value.kind, .int .i64 r.value.n, .string r.value.s]
/-- A number from one «to» another. -/
def countsD (v frm : Int) : Bool := decide (frm ≤ v) && decide (v ≤ 1099511627776)
def noneV (v : ValD) : Bool := v.kind == 0 && v.n == 0 && emptyB v.s
/-- May a command be? -/
def checkC (c : CmdD) : Bool :=
  if c.kind = 1 then c.session == 0 && c.seq == 0 && emptyB c.field && c.version == 0 && noneV c.value
  else countsD c.session 1 && countsD c.seq 1 &&
    (if c.kind = 2 then nameD c.field && countsD c.version 0 && checkD c.value
     else if c.kind = 3 then emptyB c.field && c.version == 0 && noneV c.value
     else if c.kind = 4 then nameD c.field && c.version == 0 && noneV c.value
     else false)
def checkR (r : ReplyD) : Bool := decide (0 ≤ r.err) && decide (r.err ≤ 24) && countsD r.n 0 && checkD r.value
def putC (c : CmdD) : List UInt8 :=
  intL c.kind ++ if c.kind = 1 then [] else intL c.session ++ intL c.seq ++
    if c.kind = 2 then textL c.field ++ intL c.version ++ putL c.value else if c.kind = 4 then textL c.field else []
def putR (r : ReplyD) : List UInt8 := intL r.err ++ intL r.n ++ putL r.value

theorem blk8 {w : World} {b : Nat} {x0 x1 x2 x3 x4 x5 x6 x7 : Value} {t : TypeId} (h : w.heap[b]? = some (.cells #[x0, x1, x2, x3, x4, x5, x6, x7] t (0, 0))) :
    (w.cell? ⟨b, 0, none⟩ = some x0 ∧ w.cell? ⟨b, 1, none⟩ = some x1 ∧ w.cell? ⟨b, 2, none⟩ = some x2 ∧ w.cell? ⟨b, 3, none⟩ = some x3 ∧ w.cell? ⟨b, 4, none⟩ = some x4 ∧ w.cell? ⟨b, 5, none⟩ = some x5 ∧ w.cell? ⟨b, 6, none⟩ = some x6 ∧ w.cell? ⟨b, 7, none⟩ = some x7) ∧ ∀ i, w.frozen? ⟨b, i, none⟩ = false :=
  ⟨⟨cell_of_block h 0, cell_of_block h 1, cell_of_block h 2, cell_of_block h 3, cell_of_block h 4, cell_of_block h 5, cell_of_block h 6, cell_of_block h 7⟩, fun i => frozen_of_row w b i _ _ h⟩

set_option maxRecDepth 100000 in
theorem r14counts_any (v f : Int) (w : World) : Calls Tryz.prog 26 #[.int .i64 v, .int .i64 f] w fun e w' => e = .returned (.bool (countsD v f)) ∧ Keeps [] w w' := by
  go_enter Tryz.func26, Tryz.ntmps26
  go_wp2_with fail
  all_goals
    go_ret
    refine ⟨?_, Keeps.refl _ _⟩
    simp_all [countsD]
    try omega

set_option maxRecDepth 100000 in
set_option maxHeartbeats 8000000 in
theorem r14Check_any (c : CmdD) (w : World) (hT : Tabs w) : Calls Tryz.prog 51 #[cmdV c] w fun e w' => e = .returned (.bool (checkC c)) ∧ Keeps [] w w' := by
  obtain ⟨kd, se, sq, fd, vr, vk, vn, vs⟩ := c
  have HT := hid hT
  clear hT
  unfold cmdV
  dsimp only
  by_cases k1 : kd = 1
  · subst k1
    go_enter Tryz.func51, Tryz.ntmps51
    go_wp2_with fail
    all_goals
      go_ret
      refine ⟨?_, by exact Keeps.K⟩
      clear HT
      simp_all [checkC, noneV, emptyB]
  · have HD : Hid (checkC ⟨kd, se, sq, fd, vr, ⟨vk, vn, vs⟩⟩ = (countsD se 1 && countsD sq 1 &&
      (if kd = 2 then nameD fd && countsD vr 0 && checkD ⟨vk, vn, vs⟩
     else if kd = 3 then emptyB fd && vr == 0 && noneV ⟨vk, vn, vs⟩
     else if kd = 4 then nameD fd && vr == 0 && noneV ⟨vk, vn, vs⟩
     else false))) := by
      show _ = _
      unfold checkC
      rw [if_neg k1]
    have n1 : (kd == 1) = false := by simp; exact k1
    obtain ⟨b1, hb1⟩ : ∃ b1, countsD se 1 = b1 := ⟨_, rfl⟩
    obtain ⟨b2, hb2⟩ : ∃ b2, countsD sq 1 = b2 := ⟨_, rfl⟩
    have HC1 := hid (fun w1 => r14counts_any se 1 w1)
    have HC2 := hid (fun w1 => r14counts_any sq 1 w1)
    rw [hb1] at HC1 HD
    rw [hb2] at HC2 HD
    clear hb1 hb2
    rcases b1 with _ | _
    · clear k1
      go_enter Tryz.func51, Tryz.ntmps51
      go_wp2_with fail
      refine (HC1.out _).mono ?_
      rintro e w2 ⟨rfl, hk⟩
      have K2 : Hid (Keeps [] w w2) := Keeps.trans (G := []) (by exact Keeps.K) hk (fun _ _ h => h)
      clear hk
      go_wp2_with fail
      go_ret
      exact ⟨by rw [HD.out]; simp, K2.out⟩
    · go_enter Tryz.func51, Tryz.ntmps51
      go_wp2_with fail
      obtain ⟨wA, hwA⟩ : ∃ wA, w.alloc (.cells #[.int .i64 kd, .int .i64 se, .int .i64 sq, .string fd, .int .i64 vr, .int .i64 vk, .int .i64 vn, .string vs] 34) = wA := ⟨_, rfl⟩
      have KA : Hid (Keeps [] w wA) := by rw [← hwA]; exact Keeps.K
      have HA : Hid (wA.heap[w.heap.size]? = some (.cells #[.int .i64 kd, .int .i64 se, .int .i64 sq, .string fd, .int .i64 vr, .int .i64 vk, .int .i64 vn, .string vs] 34 (0, 0))) := by rw [← hwA]; exact heap_alloc_new _ _
      have HROW : Hid (∀ w', Keeps [] wA w' → w'.heap[w.heap.size]? = some (.cells #[.int .i64 kd, .int .i64 se, .int .i64 sq, .string fd, .int .i64 vr, .int .i64 vk, .int .i64 vn, .string vs] 34 (0, 0))) := fun w' g => (g.block _ (Array.getElem?_eq_some_iff.1 HA.out).1 (by simp)).trans HA.out
      rw [hwA]
      clear hwA
      refine (HC1.out _).mono ?_
      rintro e w2 ⟨rfl, hk⟩
      have K2 := hid hk
      obtain ⟨⟨x0, x1, x2, x3, x4, x5, x6, x7⟩, f0⟩ := blk8 (HROW.out _ hk)
      clear hk
      go_wp2_with fail
      refine (HC2.out _).mono ?_
      rintro e w3 ⟨rfl, hk⟩
      have K3 := hid (K2.out.trans hk (fun _ _ h => h))
      clear hk x0 x1 x2 x3 x4 x5 x6 x7 f0
      obtain ⟨⟨x0, x1, x2, x3, x4, x5, x6, x7⟩, f0⟩ := blk8 (HROW.out _ K3.out)
      have KW3 : Hid (Keeps [] w w3) := KA.out.trans K3.out (fun _ _ h => h)
      rcases b2 with _ | _
      · clear k1
        go_wp2_with fail
        go_ret
        exact ⟨by rw [HD.out]; simp, KW3.out⟩
      · rw [Bool.true_and, Bool.true_and] at HD
        by_cases k2 : kd = 2
        · subst k2
          have HD2 : Hid (checkC ⟨2, se, sq, fd, vr, ⟨vk, vn, vs⟩⟩ = (nameD fd && countsD vr 0 && checkD ⟨vk, vn, vs⟩)) := by
            show _ = _
            rw [HD.out, if_pos rfl]
          obtain ⟨b3, hb3⟩ : ∃ b3, nameD fd = b3 := ⟨_, rfl⟩
          obtain ⟨b4, hb4⟩ : ∃ b4, countsD vr 0 = b4 := ⟨_, rfl⟩
          obtain ⟨b5, hb5⟩ : ∃ b5, checkD ⟨vk, vn, vs⟩ = b5 := ⟨_, rfl⟩
          have HC3 := hid (fun w1 => r6Name_any fd w1)
          have HC4 := hid (fun w1 => r14counts_any vr 0 w1)
          have HC5 := hid (fun w1 hT1 => r5check_all ⟨vk, vn, vs⟩ b5 hb5 w1 hT1)
          unfold valV at HC5
          dsimp only at HC5
          rw [hb3] at HC3 HD2
          rw [hb4] at HC4 HD2
          rw [hb5] at HD2
          clear hb3 hb4 hb5 k1 HD n1
          go_wp2_with fail
          refine (HC3.out _).mono ?_
          rintro e w4 ⟨rfl, hk⟩
          have K4 := hid (K3.out.trans hk (fun _ _ h => h))
          clear hk x0 x1 x2 x3 x4 x5 x6 x7 f0
          obtain ⟨⟨x0, x1, x2, x3, x4, x5, x6, x7⟩, f0⟩ := blk8 (HROW.out _ K4.out)
          have KW4 : Hid (Keeps [] w w4) := KA.out.trans K4.out (fun _ _ h => h)
          rcases b3 with _ | _
          · go_wp2_with fail
            go_ret
            exact ⟨by rw [HD2.out]; simp, KW4.out⟩
          · go_wp2_with fail
            refine (HC4.out _).mono ?_
            rintro e w5 ⟨rfl, hk⟩
            have K5 := hid (K4.out.trans hk (fun _ _ h => h))
            clear hk x0 x1 x2 x3 x4 x5 x6 x7 f0
            obtain ⟨⟨x0, x1, x2, x3, x4, x5, x6, x7⟩, f0⟩ := blk8 (HROW.out _ K5.out)
            have KW5 : Hid (Keeps [] w w5) := KA.out.trans K5.out (fun _ _ h => h)
            rcases b4 with _ | _
            · go_wp2_with fail
              go_ret
              exact ⟨by rw [HD2.out]; simp, KW5.out⟩
            · go_wp2_with fail
              refine (HC5.out _ (HT.out.k KW5.out)).mono ?_
              rintro e w6 ⟨rfl, hk⟩
              have KW6 : Hid (Keeps [] w w6) := KW5.out.trans hk (fun _ _ h => h)
              clear hk
              go_wp2_with fail
              go_ret
              exact ⟨by rw [HD2.out]; simp, KW6.out⟩
        · by_cases k3 : kd = 3
          · subst k3
            have HD2 : Hid (checkC ⟨3, se, sq, fd, vr, ⟨vk, vn, vs⟩⟩ = (emptyB fd && vr == 0 && noneV ⟨vk, vn, vs⟩)) := by
              show _ = _
              rw [HD.out, if_neg (by decide), if_pos rfl]
            clear k1 k2 HD n1
            go_wp2_with fail
            all_goals
              go_ret
              refine ⟨?_, KW3.out⟩
              rw [HD2.out]
              clear x0 x1 x2 x3 x4 x5 x6 x7 f0 HT HC1 HC2 HROW HA KA K2 K3 KW3 HD2
              simp_all [noneV, emptyB]
          · by_cases k4 : kd = 4
            · subst k4
              have HD2 : Hid (checkC ⟨4, se, sq, fd, vr, ⟨vk, vn, vs⟩⟩ = (nameD fd && vr == 0 && noneV ⟨vk, vn, vs⟩)) := by
                show _ = _
                rw [HD.out, if_neg (by decide), if_neg (by decide), if_pos rfl]
              obtain ⟨b3, hb3⟩ : ∃ b3, nameD fd = b3 := ⟨_, rfl⟩
              have HC3 := hid (fun w1 => r6Name_any fd w1)
              rw [hb3] at HC3 HD2
              clear hb3 k1 k2 k3 HD n1
              go_wp2_with fail
              refine (HC3.out _).mono ?_
              rintro e w4 ⟨rfl, hk⟩
              have K4 := hid (K3.out.trans hk (fun _ _ h => h))
              clear hk x0 x1 x2 x3 x4 x5 x6 x7 f0
              obtain ⟨⟨x0, x1, x2, x3, x4, x5, x6, x7⟩, f0⟩ := blk8 (HROW.out _ K4.out)
              have KW4 : Hid (Keeps [] w w4) := KA.out.trans K4.out (fun _ _ h => h)
              rcases b3 with _ | _
              · go_wp2_with fail
                go_ret
                exact ⟨by rw [HD2.out]; simp, KW4.out⟩
              · go_wp2_with fail
                all_goals
                  go_ret
                  refine ⟨?_, KW4.out⟩
                  rw [HD2.out]
                  clear x0 x1 x2 x3 x4 x5 x6 x7 f0 HT HC1 HC2 HC3 HROW HA KA K2 K3 KW3 K4 KW4 HD2
                  simp_all [noneV, emptyB]
            · have n2 : (kd == 2) = false := by simp; exact k2
              have n3 : (kd == 3) = false := by simp; exact k3
              have n4 : (kd == 4) = false := by simp; exact k4
              have HD2 : Hid (checkC ⟨kd, se, sq, fd, vr, ⟨vk, vn, vs⟩⟩ = false) := by
                show _ = _
                rw [HD.out, if_neg k2, if_neg k3, if_neg k4]
              clear k1 k2 k3 k4
              go_wp2_with fail
              go_ret
              exact ⟨by rw [HD2.out]; rfl, KW3.out⟩

end Go.Proofs.YtnjdepojmnniaaaGreatDoor

/- Bytes' type. -/
namespace Go.Proofs.YtnjdepojmnniaaaGreatDoor
open Go Go.RowKit

theorem Tryz.infoU8 : (Tryz.prog.info? 5).map (fun i => (i.zero, i.size, i.bytes)) = some (some (.int .u8 0), 1, 1) := by kernel_rfl

end Go.Proofs.YtnjdepojmnniaaaGreatDoor

/- Plain facts on bytes and numbers. No program is named here. -/
namespace Go.Proofs.YtnjdepojmnniaaaGreatDoor
open Go Go.RowKit

/-- The byte that a number ends with. -/
def byteOf (n : Int) : UInt8 := UInt8.ofNat (n % 256).toNat

theorem byteOf_toNat (n : Int) : ((byteOf n).toNat : Int) = n % 256 := by
  have h0 := Int.emod_nonneg n (show (256 : Int) ≠ 0 by decide)
  have h1 := Int.emod_lt_of_pos n (show (0 : Int) < 256 by decide)
  unfold byteOf
  rw [UInt8.toNat_ofNat']
  omega

theorem wrap_u8_byteOf (n : Int) : IntKind.u8.wrap n = ((byteOf n).toNat : Int) := by rw [IntKind.wrap_u8, byteOf_toNat]

theorem byteOf_zero (n : Int) : byteOf n = 0 ↔ n % 256 = 0 := by
  constructor
  · intro h
    have := byteOf_toNat n
    rw [h] at this
    simpa using this.symm
  · intro h
    apply UInt8.toNat_inj.1
    have := byteOf_toNat n
    rw [h] at this
    simpa using this

theorem and255 (n : Int) : bits .and .i64 n 255 = n % 256 := by
  have h0 := Int.emod_nonneg n (show (256 : Int) ≠ 0 by decide)
  have h1 := Int.emod_lt_of_pos n (show (0 : Int) < 256 by decide)
  have e : (BitVec.ofInt 64 n &&& BitVec.ofInt 64 255).toNat = (n % 256).toNat := by
    rw [BitVec.toNat_and, BitVec.toNat_ofInt, show (BitVec.ofInt 64 255).toNat = 2 ^ 8 - 1 from by decide, Nat.and_two_pow_sub_one_eq_mod]
    have h2 := Int.emod_nonneg n (show (2 ^ 64 : Int) ≠ 0 by decide)
    have h3 : (n % 2 ^ 64) % 256 = n % 256 := Int.emod_emod_of_dvd n (by decide)
    show (n % 2 ^ 64).toNat % 2 ^ 8 = _
    omega
  show IntKind.i64.wrap ((BitVec.ofInt IntKind.i64.bits n &&& BitVec.ofInt IntKind.i64.bits 255).toNat : Int) = _
  rw [show (BitVec.ofInt IntKind.i64.bits n &&& BitVec.ofInt IntKind.i64.bits 255).toNat = (n % 256).toNat from e, IntKind.wrap_i64]
  omega

theorem xor_u8 (a b : UInt8) : bits .xor .u8 (a.toNat : Int) (b.toNat : Int) = ((a ^^^ b).toNat : Int) := by
  have h0 := a.toNat_lt
  have h1 := b.toNat_lt
  rw [u8_xor_nat _ _ (by omega) (by omega)]
  simp

theorem xor_byteOf (a : UInt8) (n : Int) : bits .xor .u8 (a.toNat : Int) (IntKind.u8.wrap n) = ((a ^^^ byteOf n).toNat : Int) := by
  rw [wrap_u8_byteOf, xor_u8]

theorem xor_mod (a : UInt8) (n : Int) : bits .xor .u8 (a.toNat : Int) (n % 256) = ((a ^^^ byteOf n).toNat : Int) := by
  rw [← byteOf_toNat, xor_u8]

theorem and255_byteOf (n : Int) : byteOf (bits .and .i64 n 255) = byteOf n := by
  rw [and255]
  unfold byteOf
  rw [Int.emod_emod_of_dvd n (Int.dvd_refl 256)]

/-- In a flat list without a thing twice, different places have nothing in common. -/
theorem flat_lt {α : Type} (f : α → List Nat) : ∀ (l : List α), (l.flatMap f).Nodup → ∀ (i j : Nat) (u v : α), i < j → l[i]? = some u → l[j]? = some v → ∀ b ∈ f u, b ∉ f v
  | [], _, i, _, _, _, _, h, _, _, _ => by simp at h
  | x :: l, hn, 0, j + 1, u, v, _, hu, hv, b, hb => by
    rw [List.flatMap_cons] at hn
    simp at hu hv
    subst hu
    intro hb'
    exact (List.nodup_append.1 hn).2.2 b hb b (List.mem_flatMap.2 ⟨v, List.mem_of_getElem? hv, hb'⟩) rfl
  | x :: l, hn, i + 1, j + 1, u, v, hlt, hu, hv, b, hb => by
    rw [List.flatMap_cons] at hn
    exact flat_lt f l (List.nodup_append.1 hn).2.1 i j u v (by omega) (by simpa using hu) (by simpa using hv) b hb
theorem flat_apart {α : Type} (f : α → List Nat) {l : List α} (h : (l.flatMap f).Nodup) {i j : Nat} {u v : α} (hi : l[i]? = some u) (hj : l[j]? = some v) (hne : i ≠ j) : ∀ b ∈ f u, b ∉ f v := by
  rcases Nat.lt_or_gt_of_ne hne with hlt | hlt
  · exact flat_lt f l h i j u v hlt hi hj
  · exact fun b hb hb' => flat_lt f l h j i v u hlt hj hi b hb' hb

end Go.Proofs.YtnjdepojmnniaaaGreatDoor

/- Bytes behind bytes: PutInt, PutText of wire; palaverref03's Int, Text. -/
namespace Go.Proofs.YtnjdepojmnniaaaGreatDoor
open Go Go.RowKit


theorem u8s_snoc (bs cs : List UInt8) : u8s (bs ++ cs) = u8s bs ++ u8s cs := by simp [u8s]

/-- Bytes that may be appended «to», seen by nobody else: the call's own row, or one that is full. -/
def PutSt (w : World) (base : Nat) (v : Value) (bs : List UInt8) : Prop :=
  w.ownsRow base 5 1 v bs.length (u8s bs) ∨ ∃ ao, v = .slice ao bs.length bs.length ∧ Reads w 1 v bs.length (u8s bs)

theorem wpList_put1 {ops : Array Oper} {rest : List Oper} {o : Oper} {a : Act} {Q : Exit → Act → World → Prop} (w : World) (hgd : o.guard = none) (s x : Operand)
    (ho : o.op = .call { callee := .builtin .append, args := #[s, x], argTypes := #[36, 36] })
    (base : Nat) (i : TypeInfo) (hi : Tryz.prog.info? 5 = some i) (hz : i.zero = some (.int .u8 0)) (hsize : i.size = 1) (hby : i.bytes = 1)
    (v : Value) (hs : a.eval s = v) (bs : List UInt8) (n : Nat) (hn : bs.length = n) (hst : PutSt w base v bs) (b : Nat) (hx : a.eval x = .slice (some ⟨b, 0, none⟩) 1 1) (c : UInt8) (z : Int) (hc : z = (c.toNat : Int)) (t' : TypeId) (fr : Nat × Nat) (hb : w.heap[b]? = some (.cells #[.int .u8 z] t' fr))
    (hbytes : n + 1 ≤ 140737488355328) (hbase : base ≤ w.heap.size)
    (h : ∀ a' c' w', Hid (w'.ownsRow base 5 1 (.slice a' (n + 1) c') (n + 1) (u8s (bs ++ [c]))) → Hid (∀ w0 : World, w0.heap.size ≤ base → Keeps [] w0 w → Keeps [] w0 w') → wpList Tryz.prog ops Q rest (a.put o.dst (.slice a' (n + 1) c')) w') : wpList Tryz.prog ops Q (o :: rest) a w := by
  subst hn
  subst hc
  have h63 : bs.length + 1 ≤ maxLen := le_maxLen (by omega)
  have hr : Reads w 1 (.slice (some ⟨b, 0, none⟩) 1 1) 1 (u8s [c]) := Reads.ofBlock hb rfl (by unfold maxLen; omega)
  rcases hst with hown | ⟨ao, rfl, hrd⟩
  · refine wpList_append_reads w hgd s x 36 ho base 5 i (.int .u8 0) 1 1 Tryz.underlying36 hi hz hsize hby rfl (by decide) v hs bs.length (u8s bs) hown _ hx 1 (u8s [c]) hr (u8s_one _) (by omega) h63 hbase fun a' c' w' g1 g2 _ _ => ?_
    refine h a' c' w' (by show w'.ownsRow _ _ _ _ _ _; rw [u8s_snoc]; exact g1.out) fun w0 hw0 k0 => ?_
    exact k0.trans (Keeps.ofGrown (F := ownB v) g2.out (fun k hk => by rw [mem_ownB]; exact hk)) (fun k hk hm => by have := (ownB_ge hown k hm).1; omega)
  · refine wpList_append_grows w hgd s x 36 ho 5 i (.int .u8 0) 1 1 Tryz.underlying36 hi hz hsize hby rfl (by decide) ao bs.length bs.length (u8s bs) hs ?_ (by rw [u8s_length, Nat.mul_one]) ?_ ⟨b, 0, none⟩ 1 1 (u8s [c]) hx (by simp [u8s]) ?_ (u8s_one _) (by omega) h63 (by omega) fun v' w' g1 g2 => ?_
    · intro hn
      rcases hrd.2 with ⟨h0, _⟩ | ⟨_, g, off, c, hv, _⟩
      · exact ⟨h0, h0⟩
      · rw [hn] at hv; cases hv
    · intro g hg j u hu
      rcases hrd.2 with ⟨h0, _⟩ | ⟨_, b', off, c', hv, _, _, _, hcell⟩
      · have : bs = [] := List.eq_nil_of_length_eq_zero h0
        subst this
        simp [u8s] at hu
      · rw [hg] at hv
        cases hv
        have := hcell j u hu
        rw [addr_add]
        exact this
    · intro j u hu
      rw [addr_add, Nat.zero_add]
      refine (cell_of_block hb j).trans ?_
      simp [u8s] at hu ⊢
      exact hu
    · obtain ⟨a', c', rfl⟩ := len_form g1
      refine h a' c' w' (by show w'.ownsRow _ _ _ _ _ _; rw [u8s_snoc]; exact ownsRow_base g1 hbase) fun w0 hw0 k0 => ?_
      exact k0.trans (Keeps.ofGrown (F := []) g2 (fun _ h => by cases h)) (fun _ _ h => h)

theorem zz (v : Int) (hv : I64 v) : bits .xor .u64 (IntKind.u64.wrap (IntKind.u64.wrap v * 2)) (IntKind.u64.wrap (v / 9223372036854775808)) = ((Lib.zigzag v : Nat) : Int) := by
  obtain ⟨v0, v1⟩ := hv
  by_cases h : 0 ≤ v
  · have e1 : v / 9223372036854775808 = 0 := by omega
    rw [e1, Lib.zigzag_nonneg h]
    have e2 : IntKind.u64.wrap (IntKind.u64.wrap v * 2) = ((v.toNat * 2 : Nat) : Int) := by rw [IntKind.wrap_u64, IntKind.wrap_u64]; omega
    have e3 : IntKind.u64.wrap 0 = ((0 : Nat) : Int) := by decide
    rw [e2, e3, bits_xor_u64_nat _ _ (by omega) (by decide), Nat.xor_zero]
    omega
  · have e1 : v / 9223372036854775808 = -1 := by omega
    have e2 : IntKind.u64.wrap (-1) = IntKind.u64.max := by decide
    rw [e1, e2, ← Lib.zigzag_neg v0 (by omega)]
    have e3 : IntKind.u64.wrap (IntKind.u64.wrap v * 2) = (((2 * v + 18446744073709551616).toNat : Nat) : Int) := by
      rw [IntKind.wrap_u64, IntKind.wrap_u64]; omega
    have e4 : IntKind.u64.max = ((2 ^ 64 - 1 : Nat) : Int) := by decide
    rw [e3, e4, bits_xor_u64_nat _ _ (by omega) (by decide), bits_xor_u64_nat _ _ (by decide) (by omega), Nat.xor_comm]
theorem byte_of (n : Nat) (h : n < 256) : ((n.toUInt8).toNat : Int) = (n : Int) := by simp; omega

theorem PutSt.k {w w' : World} {base : Nat} {v : Value} {bs : List UInt8} (h : PutSt w base v bs) (k : Keeps [] w w') : PutSt w' base v bs := by
  rcases h with h | ⟨ao, rfl, h⟩
  · exact .inl (ownsRow_keeps h k (fun _ _ h => by cases h))
  · exact .inr ⟨ao, rfl, h.keeps k (fun _ _ h => by cases h)⟩
theorem Reads.full {w : World} {a : Option Addr} {n c : Nat} {xs : List Value} (h : Reads w 1 (.slice a n c) n xs) : Reads w 1 (.slice a n n) n xs := by
  obtain ⟨hl, h | ⟨hp, b, off, c', hv, hnc, hc, hb, hx⟩⟩ := h
  · exact ⟨hl, .inl ⟨h.1, a, 0, by rw [h.1]⟩⟩
  · cases hv
    exact ⟨hl, .inr ⟨hp, b, off, n, rfl, Nat.le_refl _, Nat.le_trans hnc hc, hb, hx⟩⟩

def PutPost (bs xs : List UInt8) (w : World) (e : Ending) (w' : World) : Prop :=
  ∃ a q, e = .returned (.slice a (bs ++ xs).length q) ∧ w'.ownsRow w.heap.size 5 1 (.slice a (bs ++ xs).length q) (bs ++ xs).length (u8s (bs ++ xs)) ∧ Keeps [] w w'

set_option maxRecDepth 100000 in
set_option maxHeartbeats 3200000 in
theorem putInt_any (a : Option Addr) (bs : List UInt8) (c : Nat) (v : Int) (hv : I64 v) (w : World) (hr : Reads w 1 (.slice a bs.length c) bs.length (u8s bs)) (hb : bs.length ≤ 140737488355000) :
    Calls Tryz.prog 61 #[.slice a bs.length c, .int .i64 v] w (PutPost bs (Lib.uvarint (Lib.zigzag v)) w) := by
  obtain ⟨ip, hi, hz0, hz1, hz2⟩ := info_parts Tryz.infoU8
  have HR := hid hr
  obtain ⟨v0, v1⟩ := hv
  have hlc : bs.length ≤ c := by
    rcases hr.2 with ⟨h0, _⟩ | ⟨_, b, off, c', hv, h, _⟩
    · omega
    · cases hv; exact h
  clear hr
  go_enter Tryz.func61, Tryz.ntmps61
  go_wp2_with fail
  rw [zz v ⟨v0, v1⟩]
  have hz64 := Lib.zigzag_lt v0 v1
  have HU : Hid ((Lib.uvarint (Lib.zigzag v)).length ≤ 10) := Lib.uvarint_length64 hz64
  obtain ⟨z, hz⟩ : ∃ z, Lib.zigzag v = z := ⟨_, rfl⟩
  have HZG := hid hz
  rw [hz] at hz64 HU ⊢
  clear hz
  go_loopw [0, 5] (fun s u wr => ∃ (acc : List UInt8) (n x q : Nat) (ao : Option Addr), x ≤ z ∧ n ≤ bs.length + 10 ∧ s = .slice ao n q ∧ u = .int .u64 x ∧ Hid ((bs ++ acc).length = n ∧ PutSt wr w.heap.size (.slice ao n q) (bs ++ acc) ∧ Lib.uvarint z = acc ++ Lib.uvarint x ∧ Keeps [] w wr)) (fun _ u _ => (intOf u).toNat)
  case atStart => exact ⟨[], bs.length, z, bs.length, a, Nat.le_refl _, by omega, rfl, rfl, by simp, .inr ⟨a, by simp, by simpa using HR.out.full⟩, by simp, Keeps.refl [] w⟩
  case round =>
    obtain ⟨acc, n, x, q, ao, hxz, hnb, rfl, rfl, HW⟩ := hrel
    have i0 : (0 : Int) ≤ (x : Int) := Int.natCast_nonneg _
    have HZ : Hid (w.heap.size ≤ wr.heap.size) := HW.out.2.2.2.size
    have HN : Hid ((bs ++ acc).length = n) := HW.out.1
    have hn63 : n + 1 ≤ 140737488355328 := by omega
    by_cases hlt : 128 ≤ x
    · have hlt' : (128 : Int) ≤ (x : Int) := by omega
      have hx64 : x < 18446744073709551616 := by omega
      go_wp2_with (at_builtin; go_must (refine wpList_put1 _ (by rfl) _ _ (by rfl) w.heap.size ip hi hz0 hz1 hz2 (.slice ao n q) (by rfl) (bs ++ acc) n HN.out (HW.out.2.1.k (by exact Keeps.K)) wr.heap.size (by rfl) ((x % 128 + 128).toUInt8) _ (by rw [Lib.u8_or128_any _ (by omega) (by omega), byte_of _ (by omega)]; omega) 5 (0, 0) (heap_alloc_new _ _) hn63 (Nat.le_trans HZ.out (by simp)) ?_; intro a4 q4 w4 ho4 hk4))
      have HB := Lib.uvarint_big (by omega : 128 ≤ x)
      have HL := HU.out
      rw [HW.out.2.2.1, HB] at HL
      simp only [List.length_append, List.length_cons] at HL
      have HP : 1 ≤ (Lib.uvarint (x / 128)).length := Lib.uvarint_pos _
      have hn0 := HN.out
      rw [List.length_append] at hn0
      refine ⟨⟨acc ++ [(x % 128 + 128).toUInt8], n + 1, x / 128, q4, a4, by omega, by omega, rfl, by simp, ⟨by simp; omega, ?_, ?_, ?_⟩⟩, by simp [intOf]; omega⟩
      · rw [← List.append_assoc]
        refine .inl ?_
        have hl : (bs ++ acc ++ [(x % 128 + 128).toUInt8]).length = n + 1 := by simp; omega
        rw [hl]
        exact ho4.out
      · rw [HW.out.2.2.1, HB]; simp
      · exact hk4.out w (Nat.le_refl _) (by have kk := HW.out.2.2.2; exact Keeps.K)
    · have hge : (x : Int) < 128 := by omega
      go_wp2_with (at_builtin; go_must (refine wpList_put1 _ (by rfl) _ _ (by rfl) w.heap.size ip hi hz0 hz1 hz2 (.slice ao n q) (by rfl) (bs ++ acc) n HN.out (HW.out.2.1.k (by exact Keeps.K)) wr.heap.size (by rfl) (x.toUInt8) _ (by rw [byte_of _ (by omega)]) 5 (0, 0) (heap_alloc_new _ _) hn63 (Nat.le_trans HZ.out (by simp)) ?_; intro a4 q4 w4 ho4 hk4))
      go_ret
      have HB := Lib.uvarint_small (by omega : x < 128)
      have E : Hid (Lib.uvarint z = acc ++ [x.toUInt8]) := by show _ = _; rw [HW.out.2.2.1, HB]
      rw [HZG.out, E.out]
      have hl : (bs ++ (acc ++ [x.toUInt8])).length = n + 1 := by have := HN.out; simp at this ⊢; omega
      refine ⟨a4, q4, by rw [hl]; rfl, ?_, hk4.out w (Nat.le_refl _) (by have kk := HW.out.2.2.2; exact Keeps.K)⟩
      rw [hl, ← List.append_assoc]
      exact ho4.out

end Go.Proofs.YtnjdepojmnniaaaGreatDoor
