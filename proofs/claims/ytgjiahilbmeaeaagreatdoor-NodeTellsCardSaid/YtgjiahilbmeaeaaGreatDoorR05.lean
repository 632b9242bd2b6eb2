/- Joined of CmA, WireC, CmD, VaR, RdP, RdA, RdC, RdE, CmG. -/
import Derived.Test.YtgjiahilbmeaeaaGreatDoorR04
import Derived.Test.YtgjiahilbmeaeaaGreatDoorR00
import Derived.Test.YtgjiahilbmeaeaaGreatDoorR02
import Derived.Test.YtgjiahilbmeaeaaGreatDoorQ02
import Derived.Lib.VarintBits
import Derived.Laws.Bits64b
import Derived.Lib.Zigzag
import Derived.Test.YtgjiahilbmeaeaaGreatDoorQ01
import Derived.WalkKit
import Derived.ScopeJumps
import Derived.Test.YtgjiahilbmeaeaaGreatDoorQ03
set_option maxRecDepth 100000
set_option maxHeartbeats 3200000
set_option linter.unusedSimpArgs false
set_option linter.unusedVariables false
/- Commands, replies: plain. -/
namespace Go.Proofs.YtgjiahilbmeaeaaGreatDoor
open Go Go.RowKit
structure CmdD where
 kind : Int
 session : Int
 seq : Int
 field : ByteArray
 version : Int
 value : ValD
def cmdV (c : CmdD) : Value := .agg #[.int .i64 c.kind, .int .i64 c.session, .int .i64 c.seq, .string c.field, .int .i64 c.version, .int .i64 c.value.kind, .int .i64 c.value.n, .string c.value.s]
structure ReplyD where
 err : Int
 n : Int
 value : ValD
def countsD (v frm : Int) : Bool := decide (frm ≤ v) && decide (v ≤ 1099511627776)
def noneV (v : ValD) : Bool := v.kind == 0 && v.n == 0 && emptyB v.s
def checkC (c : CmdD) : Bool :=
 if c.kind = 1 then c.session == 0 && c.seq == 0 && emptyB c.field && c.version == 0 && noneV c.value
 else countsD c.session 1 && countsD c.seq 1 &&
  (if c.kind = 2 then nameD c.field && countsD c.version 0 && checkD c.value
   else if c.kind = 3 then emptyB c.field && c.version == 0 && noneV c.value
   else if c.kind = 4 then nameD c.field && c.version == 0 && noneV c.value
   else false)
theorem blk8 {w : World} {b : Nat} {x0 x1 x2 x3 x4 x5 x6 x7 : Value} {t : TypeId} (h : w.heap[b]? = some (.cells #[x0, x1, x2, x3, x4, x5, x6, x7] t (0, 0))) :
 (w.cell? ⟨b, 0, none⟩ = some x0 ∧ w.cell? ⟨b, 1, none⟩ = some x1 ∧ w.cell? ⟨b, 2, none⟩ = some x2 ∧ w.cell? ⟨b, 3, none⟩ = some x3 ∧ w.cell? ⟨b, 4, none⟩ = some x4 ∧ w.cell? ⟨b, 5, none⟩ = some x5 ∧ w.cell? ⟨b, 6, none⟩ = some x6 ∧ w.cell? ⟨b, 7, none⟩ = some x7) ∧ ∀ i, w.frozen? ⟨b, i, none⟩ = false :=
 ⟨⟨cell_of_block h 0, cell_of_block h 1, cell_of_block h 2, cell_of_block h 3, cell_of_block h 4, cell_of_block h 5, cell_of_block h 6, cell_of_block h 7⟩, fun i => frozen_of_row w b i _ _ h⟩
theorem zig_pos (v : Int) (h : 0 ≤ v) : v * 2 = ((Lib.zigzag v : Nat) : Int) := (Lib.zigzag_nonneg h).symm
theorem r3Int_pos (v : Int) (hv : I64 v) (hs : ¬ v < 0) (w : World) : Calls Tryz.prog 75 #[.int .i64 v] w (PutPost [] (intL v) w) := by
 obtain ⟨ip, hi, hz0, hz1, hz2⟩ := info_parts Tryz.infoU8
 obtain ⟨v0, v1⟩ := hv
 go_enter Tryz.func75, Tryz.ntmps75
 go_wp2_with fail
 rw [zig_pos v (by omega)]
 have hz64 := Lib.zigzag_lt v0 v1
 have HU : Hid ((Lib.uvarint (Lib.zigzag v)).length ≤ 10) := Lib.uvarint_length64 hz64
 obtain ⟨z, hz⟩ : ∃ z, Lib.zigzag v = z := ⟨_, rfl⟩
 have HZG := hid hz
 rw [hz] at hz64 HU ⊢
 clear hz
 go_loopw [4, 3] (fun s u wr => ∃ (acc : List UInt8) (n x q : Nat) (ao : Option Addr), x ≤ z ∧ n ≤ 10 ∧ s = .slice ao n q ∧ u = .int .u64 x ∧ Hid (acc.length = n ∧ PutSt wr w.heap.size (.slice ao n q) acc ∧ Lib.uvarint z = acc ++ Lib.uvarint x ∧ Keeps [] w wr)) (fun _ u _ => (intOf u).toNat)
 case atStart => exact ⟨[], 0, z, 0, none, Nat.le_refl _, by omega, rfl, rfl, rfl, .inr ⟨none, rfl, rfl, .inl ⟨rfl, none, 0, rfl⟩⟩, rfl, Keeps.refl [] w⟩
 case round =>
  obtain ⟨acc, n, x, q, ao, hxz, hnb, rfl, rfl, HW⟩ := hrel
  have i0 : (0 : Int) ≤ (x : Int) := Int.natCast_nonneg _
  have HZ : Hid (w.heap.size ≤ wr.heap.size) := HW.out.2.2.2.size
  have HN : Hid (acc.length = n) := HW.out.1
  have hn63 : n + 1 ≤ 140737488355328 := by omega
  by_cases hlt : 128 ≤ x
  ·have hlt' : (128 : Int) ≤ (x : Int) := by omega
   have hx64 : x < 18446744073709551616 := by omega
   go_wp2_with (at_builtin; go_must (refine wpList_put1 _ (by rfl) _ _ (by rfl) w.heap.size ip hi hz0 hz1 hz2 (.slice ao n q) (by rfl) acc n HN.out (HW.out.2.1.k (by exact Keeps.K)) wr.heap.size (by rfl) ((x % 128 + 128).toUInt8) _ (by rw [byte_of _ (by omega)]; omega) 5 (0, 0) (heap_alloc_new _ _) hn63 (Nat.le_trans HZ.out (by simp)) ?_; intro a4 q4 w4 ho4 hk4))
   have HB := Lib.uvarint_big (by omega : 128 ≤ x)
   have HL := HU.out
   rw [HW.out.2.2.1, HB] at HL
   simp only [List.length_append, List.length_cons] at HL
   have HP : 1 ≤ (Lib.uvarint (x / 128)).length := Lib.uvarint_pos _
   have hn0 := HN.out
   refine ⟨⟨acc ++ [(x % 128 + 128).toUInt8], n + 1, x / 128, q4, a4, by omega, by omega, rfl, by simp, ⟨by simp; omega, ?_, ?_, ?_⟩⟩, by simp [intOf]; omega⟩
   ·refine .inl ?_
    have hl : (acc ++ [(x % 128 + 128).toUInt8]).length = n + 1 := by simp; omega
    rw [hl]
    exact ho4.out
   ·rw [HW.out.2.2.1, HB]; simp
   ·exact hk4.out w (Nat.le_refl _) (by have kk := HW.out.2.2.2; exact Keeps.K)
  ·have hge : (x : Int) < 128 := by omega
   go_wp2_with (at_builtin; go_must (refine wpList_put1 _ (by rfl) _ _ (by rfl) w.heap.size ip hi hz0 hz1 hz2 (.slice ao n q) (by rfl) acc n HN.out (HW.out.2.1.k (by exact Keeps.K)) wr.heap.size (by rfl) (x.toUInt8) _ (by rw [byte_of _ (by omega)]) 5 (0, 0) (heap_alloc_new _ _) hn63 (Nat.le_trans HZ.out (by simp)) ?_; intro a4 q4 w4 ho4 hk4))
   go_ret
   have HB := Lib.uvarint_small (by omega : x < 128)
   have E : Hid (intL v = acc ++ [x.toUInt8]) := by show _ = _; unfold intL; rw [HZG.out, HW.out.2.2.1, HB]
   have hl : ([] ++ (acc ++ [x.toUInt8])).length = n + 1 := by have := HN.out; simp at this ⊢; omega
   unfold PutPost
   rw [E.out]
   refine ⟨a4, q4, by rw [hl]; rfl, ?_, hk4.out w (Nat.le_refl _) (by have kk := HW.out.2.2.2; exact Keeps.K)⟩
   rw [hl, List.nil_append]
   exact ho4.out
theorem PutPost.is {ys l : List UInt8} {w w' : World} {a : Option Addr} {q : Nat} (h : ys = l) (ho : w'.ownsRow w.heap.size 5 1 (.slice a l.length q) l.length (u8s l)) (hk : Keeps [] w w') : PutPost [] ys w (.returned (.slice a l.length q)) w' := by
 subst h
 exact ⟨a, q, rfl, ho, hk⟩
end Go.Proofs.YtgjiahilbmeaeaaGreatDoor
/- Numbers read from bytes: plain. -/
namespace Go.Proofs.YtgjiahilbmeaeaaGreatDoor
open Go
def unzig (u : Nat) : Int := if u % 2 = 1 then -((u / 2 : Nat) : Int) - 1 else ((u / 2 : Nat) : Int)
def rdGo : Nat → Nat → List UInt8 → Nat → Nat → Option Int × Nat
 | 0, _, _, _, c => (none, c)
 | _ + 1, _, [], _, c => (none, c)
 | f + 1, i, x :: l, u, c =>
   if (i = 9 ∧ 1 < x.toNat) ∨ (0 < i ∧ x.toNat = 0) then (none, c + 1)
   else if x.toNat < 128 then (some (unzig (u + x.toNat % 128 * 128 ^ i)), c + 1) else rdGo f (i + 1) l (u + x.toNat % 128 * 128 ^ i) (c + 1)
def rdInt (l : List UInt8) : Option Int × Nat := rdGo 10 0 l 0 0
open Go.RowKit
theorem pow128 (k : Nat) : (2 : Nat) ^ (7 * k) = 128 ^ k := by rw [Nat.pow_mul]
theorem step_lt {k x : Nat} (hk : k ≤ 9) (h9 : k = 9 → x ≤ 1) : x % 128 * 128 ^ k < 18446744073709551616 := by
 by_cases h : k = 9
 ·have := h9 h
  subst h
  have e : (128 : Nat) ^ 9 = 9223372036854775808 := by decide
  rw [e]
  omega
 ·have h1 : (128 : Nat) ^ k ≤ 128 ^ 8 := Nat.pow_le_pow_right (by decide) (by omega)
  have e : (128 : Nat) ^ 8 = 72057594037927936 := by decide
  rw [e] at h1
  have h2 : x % 128 * 128 ^ k ≤ 127 * 72057594037927936 := Nat.mul_le_mul (by omega) h1
  omega
theorem u64_id {n : Nat} (h : n < 18446744073709551616) : IntKind.u64.wrap (n : Int) = (n : Int) := by rw [IntKind.wrap_u64]; omega
theorem or_step (u k x : Nat) (hu : u < 128 ^ k) (hk : k ≤ 9) (hx : x < 256) (h9 : k = 9 → x ≤ 1) :
 bits .or .u64 (u : Int) (IntKind.u64.wrap (IntKind.u64.wrap (bits .and .u8 (x : Int) 127) * 2 ^ (7 * k))) = ((u + x % 128 * 128 ^ k : Nat) : Int) := by
 have hs := step_lt hk h9
 have hu64 : u < 18446744073709551616 := by
  have h1 : (128 : Nat) ^ k ≤ 128 ^ 9 := Nat.pow_le_pow_right (by decide) hk
  have e : (128 : Nat) ^ 9 = 9223372036854775808 := by decide
  omega
 rw [u8_and127 _ (by omega) (by omega), show ((x : Int) % 128) = ((x % 128 : Nat) : Int) by omega, u64_id (by omega)]
 have e : ((x % 128 : Nat) : Int) * 2 ^ (7 * k) = ((x % 128 * 128 ^ k : Nat) : Int) := by
  rw [← pow128]; push_cast; rfl
 rw [e, u64_id hs, bits_or_u64_nat _ _ hu64 hs]
 congr 1
 have hp : u < 2 ^ (7 * k) := by rw [pow128]; exact hu
 have := Nat.two_pow_add_eq_or_of_lt hp (x % 128)
 rw [Nat.or_comm, Nat.mul_comm (x % 128) (128 ^ k), ← pow128, ← this]
 omega
theorem step_bound {u k x : Nat} (hu : u < 128 ^ k) : u + x % 128 * 128 ^ k < 128 ^ (k + 1) := by
 rw [Nat.pow_succ]
 have h : x % 128 * 128 ^ k ≤ 127 * 128 ^ k := Nat.mul_le_mul_right _ (by omega)
 omega
theorem unzig_bits (z : Nat) (hz : z < 18446744073709551616) : bits .xor .i64 (wrap64 ((z : Int) / 2)) (wrap64 (-wrap64 (bits .and .u64 (z : Int) 1))) = unzig z := by
 rw [Lib.u64_and1 _ (by omega) (by omega)]
 have h1 : wrap64 ((z : Int) / 2) = ((z / 2 : Nat) : Int) := by unfold wrap64; omega
 rw [h1]
 unfold unzig
 have hc : ∀ x y : Int, bits .xor .i64 x y = bits .xor .i64 y x := fun x y => by simp [bits, BitVec.xor_comm]
 by_cases h : z % 2 = 1
 ·have h2 : wrap64 (-wrap64 ((z : Int) % 2)) = -1 := by unfold wrap64; omega
  rw [h2, if_pos h, hc, Lib.i64_not _ (by omega)]
 ·have h2 : wrap64 (-wrap64 ((z : Int) % 2)) = 0 := by unfold wrap64; omega
  rw [h2, if_neg h]
  have h3 : IntKind.i64.wrap ((z / 2 : Nat) : Int) = ((z / 2 : Nat) : Int) := by rw [IntKind.wrap_i64]; omega
  show IntKind.i64.wrap ((BitVec.ofInt 64 ((z / 2 : Nat) : Int) ^^^ BitVec.ofInt 64 0).toNat : Int) = _
  have h4 : (BitVec.ofInt 64 ((z / 2 : Nat) : Int)).toNat = z / 2 := by
   rw [BitVec.ofInt_natCast, BitVec.toNat_ofNat]; exact Nat.mod_eq_of_lt (by omega)
  have h5 : (BitVec.ofInt 64 0).toNat = 0 := by decide
  rw [BitVec.toNat_xor, h4, h5, Nat.xor_zero]
  exact h3
structure RdAt (t : TypeId) (w : World) (n : Nat) (a : Option Addr) (c : Nat) (bs : List UInt8) (p : Nat) (bad : Bool) : Prop where
 row : w.heap[n]? = some (.cells #[.slice a bs.length c, .int .i64 p, .bool bad] t (0, 0))
 bytes : Reads w 1 (.slice a bs.length c) bs.length (u8s bs)
 apart : Lies (fun b => b ≠ n) (.slice a bs.length c) bs.length
 place : p ≤ bs.length
 short : bs.length ≤ 140737488355328
theorem wp_scope_once {P : Program} {a : Act} {w : World} {Q : Exit → Act → World → Prop} {c rest : Code} (l : Nat) (hf : findLabel c l = some rest)
 (first : c.wp P (Exit.jump l (fun a w => rest.wp P (Exit.jump l (fun _ _ => False) Q) a w) Q) a w) : (Code.scope c).wp P Q a w := by
 refine wp_scope_jumps l _ (fun _ _ => 0) hf first fun a w h => Code.wp_mono (fun e a' w' h => ?_) h
 cases e with
 | goto l' => exact ⟨h.1, h.2.elim⟩
 | _ => exact h
def rdD (bs : List UInt8) (p : Nat) (bad : Bool) : Int × Nat × Bool :=
 if bad then (0, p, true) else match rdInt (bs.drop p) with
  | (some v, k) => (v, p + k, false)
  | (none, k) => (0, p + k, true)
def RdPost (t : TypeId) (n : Nat) (a : Option Addr) (c : Nat) (bs : List UInt8) (r : Int × Nat × Bool) (w : World) (e : Ending) (w' : World) : Prop :=
 e = .returned (.int .i64 r.1) ∧ RdAt t w' n a c bs r.2.1 r.2.2 ∧ Keeps [n] w w'
theorem RdAt.wrong {t : TypeId} {w : World} {n : Nat} {a : Option Addr} {c : Nat} {bs : List UInt8} {p : Nat} {bad : Bool} (h : RdAt t w n a c bs p bad) : RdAt t (w.setCell ⟨n, 2, none⟩ (.bool true)) n a c bs p true :=
 ⟨heap_setCell_same w n 2 _ _ (.bool true) h.row, h.bytes.keepsL h.apart ((Keeps.refl [n] w).setCell (.inl (by simp)) _) (fun b hb => by simpa using hb), h.apart, h.place, h.short⟩
theorem step_64 {u k x : Nat} (hu : u < 128 ^ k) (hk : k ≤ 9) (h9 : k = 9 → x ≤ 1) : u + x % 128 * 128 ^ k < 18446744073709551616 := by
 by_cases h : k = 9
 ·have := h9 h
  subst h
  have e : (128 : Nat) ^ 9 = 9223372036854775808 := by decide
  rw [e] at hu ⊢
  omega
 ·have h1 := step_bound (x := x) hu
  have h2 : (128 : Nat) ^ (k + 1) ≤ 128 ^ 9 := Nat.pow_le_pow_right (by decide) (by omega)
  have e : (128 : Nat) ^ 9 = 9223372036854775808 := by decide
  omega
theorem RdAt.moved {t : TypeId} {w : World} {n : Nat} {a : Option Addr} {c : Nat} {bs : List UInt8} {p : Nat} {bad : Bool} (h : RdAt t w n a c bs p bad) (hp : p + 1 ≤ bs.length) (z : Int) (hz : z = ((p + 1 : Nat) : Int)) : RdAt t (w.setCell ⟨n, 1, none⟩ (.int .i64 z)) n a c bs (p + 1) bad := by
 subst hz
 exact ⟨heap_setCell_same w n 1 _ _ _ h.row, h.bytes.keepsL h.apart ((Keeps.refl [n] w).setCell (.inl (by simp)) _) (fun b hb => by simpa using hb), h.apart, hp, h.short⟩
theorem rdGo_next {f k : Nat} {bs : List UInt8} {q u : Nat} {x : UInt8} (hx : bs[q]? = some x) (hA : ¬ (k = 9 ∧ 1 < x.toNat)) (hB : ¬ (0 < k ∧ x.toNat = 0)) (hC : ¬ x.toNat < 128) :
 rdGo (f + 1) k (bs.drop q) u k = rdGo f (k + 1) (bs.drop (q + 1)) (u + x.toNat % 128 * 128 ^ k) (k + 1) := by
 obtain ⟨hq, e⟩ := List.getElem?_eq_some_iff.1 hx
 rw [List.drop_eq_getElem_cons hq, e]
 conv => lhs; unfold rdGo
 rw [if_neg (by omega), if_neg hC]
theorem rdGo_last {f k : Nat} {bs : List UInt8} {q u : Nat} {x : UInt8} (hx : bs[q]? = some x) (hA : ¬ (k = 9 ∧ 1 < x.toNat)) (hB : ¬ (0 < k ∧ x.toNat = 0)) (hC : x.toNat < 128) :
 rdGo (f + 1) k (bs.drop q) u k = (some (unzig (u + x.toNat % 128 * 128 ^ k)), k + 1) := by
 obtain ⟨hq, e⟩ := List.getElem?_eq_some_iff.1 hx
 rw [List.drop_eq_getElem_cons hq, e]
 unfold rdGo
 rw [if_neg (by omega), if_pos hC]
theorem rdGo_wrong {f k : Nat} {bs : List UInt8} {q u : Nat} {x : UInt8} (hx : bs[q]? = some x) (h : (k = 9 ∧ 1 < x.toNat) ∨ (0 < k ∧ x.toNat = 0)) :
 rdGo (f + 1) k (bs.drop q) u k = (none, k + 1) := by
 obtain ⟨hq, e⟩ := List.getElem?_eq_some_iff.1 hx
 rw [List.drop_eq_getElem_cons hq, e]
 unfold rdGo
 rw [if_pos h]
theorem RdAt.k {t : TypeId} {w w' : World} {n : Nat} {a : Option Addr} {c : Nat} {bs : List UInt8} {p : Nat} {bad : Bool} (h : RdAt t w n a c bs p bad) (k : Keeps [] w w') : RdAt t w' n a c bs p bad :=
 ⟨(k.block n (Array.getElem?_eq_some_iff.1 h.row).1 (by simp)).trans h.row, h.bytes.keeps k (fun _ _ h => by cases h), h.apart, h.place, h.short⟩
theorem rdInt_any (n : Nat) (a : Option Addr) (c : Nat) (bs : List UInt8) (p : Nat) (bad : Bool) (w : World) (h : RdAt 221 w n a c bs p bad) :
 Calls Tryz.prog 61 #[.pointer (some ⟨n, 0, none⟩)] w (RdPost 221 n a c bs (rdD bs p bad) w) := by
 have H := hid h
 have y0 : w.cell? ⟨n, 0, none⟩ = some (.slice a bs.length c) := cell_of_block h.row 0
 have y1 : w.cell? ⟨n, 1, none⟩ = some (.int .i64 p) := cell_of_block h.row 1
 have y2 : w.cell? ⟨n, 2, none⟩ = some (.bool bad) := cell_of_block h.row 2
 clear h
 go_enter Tryz.func61, Tryz.ntmps61
 go_wp2_with fail
 refine wp_scope_once 0 rfl ?_
 go_wp2_with fail
 go_loopw [3, 4] (fun s i wr => ∃ (k u : Nat), s = .int .u64 u ∧ i = .int .i64 k ∧ k ≤ 10 ∧ Hid (RdAt 221 wr n a c bs (p + k) bad ∧ (k ≠ 0 → bad = false) ∧ u < 128 ^ k ∧ rdInt (bs.drop p) = rdGo (10 - k) k (bs.drop (p + k)) u k ∧ Keeps [n] w wr)) (fun _ i _ => 10 - (intOf i).toNat)
 case atStart => exact ⟨0, 0, rfl, rfl, by omega, H.out, by simp, by simp, rfl, Keeps.refl _ w⟩
 case round =>
  obtain ⟨k, u, rfl, rfl, hk, HW⟩ := hrel
  have i0 : (0 : Int) ≤ (k : Int) := Int.natCast_nonneg _
  have z0 : wr.cell? ⟨n, 0, none⟩ = some (.slice a bs.length c) := cell_of_block HW.out.1.row 0
  have z1 : wr.cell? ⟨n, 1, none⟩ = some (.int .i64 (p + k : Nat)) := cell_of_block HW.out.1.row 1
  have z2 : wr.cell? ⟨n, 2, none⟩ = some (.bool bad) := cell_of_block HW.out.1.row 2
  have f0 : ∀ i, wr.frozen? ⟨n, i, none⟩ = false := fun i => frozen_of_row wr n i _ _ HW.out.1.row
  clear y0 y1 y2
  by_cases hlt : k < 10
  ·have hlt' : (k : Int) < 10 := by omega
   rcases bad with _ | _
   ·by_cases hp : p + k < bs.length
    ·have hp' : (p : Int) + (k : Int) < (bs.length : Int) := by omega
     obtain ⟨x, hx⟩ : ∃ x, bs[p + k]? = some x := ⟨_, List.getElem?_eq_getElem hp⟩
     have HX := hid hx
     have hb := HW.out.1.bytes.2
     rcases hb with ⟨h0, _⟩ | ⟨_, b, off, c', hv, h1, h2, h3, hcell⟩
     ·omega
     have xb := hcell (p + k) (.int .u8 x.toNat) (by simp [u8s, hx])
     cases hv
     clear h1 h2 h3 hcell hx
     have hc0 : (0 : Int) ≤ (p : Int) + (k : Int) := by omega
     have hnb : b ≠ n := HW.out.1.apart (by omega) b (by simp [mem_ownB, Value.ownBlock])
     have xb' : wr.cell? ⟨b, off + ((p : Int) + (k : Int)).toNat, none⟩ = some (.int .u8 x.toNat) := by
      rw [show ((p : Int) + (k : Int)).toNat = p + k by omega]; exact xb
     have hx256 : x.toNat < 256 := x.toNat_lt
     have hsh : (bs.length : Int) ≤ 140737488355328 := by have := HW.out.1.short; omega
     have kk : ∀ m, Keeps [n] w (wr.drewN m) := fun m => HW.out.2.2.2.2.trans (G := []) (by exact Keeps.K) (fun _ _ h => by cases h)
     have KK := hid kk
     clear kk
     by_cases hA : k = 9 ∧ 1 < x.toNat
     ·obtain ⟨rfl, hA2⟩ := hA
      have a2 : (1 : Int) < (x.toNat : Int) := by omega
      have xb9 : wr.cell? ⟨b, off + ((p : Int) + 9).toNat, none⟩ = some (.int .u8 x.toNat) := xb'
      have hp9 : (p : Int) + 9 < (bs.length : Int) := hp'
      have hc9 : (0 : Int) ≤ (p : Int) + 9 := by omega
      have hA3 := hid hA2
      clear hlt' hA2 xb' hp' hc0
      go_wp2_with fail
      go_quiet (fail)
      go_wp2_with fail
      go_quiet (fail)
      go_wp2_with fail
      refine wp_goto ?_
      refine ⟨rfl, ?_⟩
      go_wp2_with fail
      simp only [Exit.jump, Exit.then, Exit.inBlock]
      go_ret
      have E : Hid (rdD bs p false = (0, p + (9 + 1), true)) := by
       show _ = _
       unfold rdD
       obtain ⟨f, hf⟩ : ∃ f, 10 - 9 = f + 1 := ⟨9 - 9, by omega⟩
       rw [HW.out.2.2.2.1, hf, rdGo_wrong HX.out (.inl ⟨rfl, hA3.out⟩)]
       rfl
      rw [E.out]
      exact ⟨rfl, ((HW.out.1.k (by exact Keeps.K)).moved (by omega) _ (by omega)).wrong, ((KK.out _).setCell (.inl (by simp)) _).setCell (.inl (by simp)) _⟩
     by_cases hB : 0 < k ∧ x.toNat = 0
     ·have a1 : (0 : Int) < (k : Int) := by omega
      have a2 : (x.toNat : Int) = 0 := by omega
      have hB3 := hid hB
      clear hA hB
      go_wp2_with fail
      go_quiet (fail)
      go_wp2_with fail
      go_quiet (fail)
      go_wp2_with fail
      all_goals
       refine wp_goto ?_
       refine ⟨rfl, ?_⟩
       go_wp2_with fail
       simp only [Exit.jump, Exit.then, Exit.inBlock]
       go_ret
       have E : Hid (rdD bs p false = (0, p + (k + 1), true)) := by
        show _ = _
        unfold rdD
        obtain ⟨f, hf⟩ : ∃ f, 10 - k = f + 1 := ⟨9 - k, by omega⟩
        rw [HW.out.2.2.2.1, hf, rdGo_wrong HX.out (.inr hB3.out)]
        rfl
       rw [E.out]
       exact ⟨rfl, ((HW.out.1.k (by exact Keeps.K)).moved (by omega) _ (by omega)).wrong, ((KK.out _).setCell (.inl (by simp)) _).setCell (.inl (by simp)) _⟩
     by_cases hC : x.toNat < 128
     ·have a2 : (x.toNat : Int) < 128 := by omega
      have hA' := hid hA
      have hB' := hid hB
      have hC' := hid hC
      clear hA hB hC
      by_cases h9 : k = 9
      ·subst h9
       have a3 : ¬ (1 : Int) < (x.toNat : Int) := by have := hA'.out; omega
       have a4 : (x.toNat : Int) ≠ 0 := by have := hB'.out; omega
       have a7 : ((x.toNat : Int) == 0) = false := by simp; have := hB'.out; omega
       have xb9 : wr.cell? ⟨b, off + ((p : Int) + 9).toNat, none⟩ = some (.int .u8 x.toNat) := xb'
       have hp9 : (p : Int) + 9 < (bs.length : Int) := hp'
       have hc9 : (0 : Int) ≤ (p : Int) + 9 := by omega
       clear hlt' xb' hp' hc0
       go_wp2_with fail
       go_quiet (fail)
       go_wp2_with fail
       go_quiet (fail)
       go_wp2_with fail
       all_goals
        simp only [Exit.jump, Exit.then, Exit.inBlock]
        go_ret
        have E : Hid (rdD bs p false = (unzig (u + x.toNat % 128 * 128 ^ 9), p + (9 + 1), false)) := by
         show _ = _
         unfold rdD
         rw [HW.out.2.2.2.1, show 10 - 9 = 0 + 1 from rfl, rdGo_last HX.out (by have := hA'.out; simpa using this) (by have := hB'.out; omega) hC'.out]
         rfl
        have OS := or_step u 9 x.toNat HW.out.2.2.1 (by omega) hx256 (by omega)
        rw [show (2 : Int) ^ (7 * 9) = 9223372036854775808 by decide] at OS
        rw [E.out, OS, unzig_bits _ (step_64 HW.out.2.2.1 (by omega) (by omega))]
        exact ⟨rfl, (HW.out.1.k (by exact Keeps.K)).moved (by omega) _ (by omega), (KK.out _).setCell (.inl (by simp)) _⟩
      ·by_cases h0 : k = 0
       ·subst h0
        have xbz : wr.cell? ⟨b, off + p, none⟩ = some (.int .u8 x.toNat) := by simpa using xb
        have hpz : (p : Int) < (bs.length : Int) := by omega
        clear hlt' xb' hp' hc0
        go_wp2_with fail
        go_quiet (fail)
        go_wp2_with fail
        go_quiet (fail)
        go_wp2_with fail
        all_goals
         simp only [Exit.jump, Exit.then, Exit.inBlock]
         go_ret
         have E : Hid (rdD bs p false = (unzig (u + x.toNat % 128 * 128 ^ 0), p + (0 + 1), false)) := by
          show _ = _
          unfold rdD
          rw [HW.out.2.2.2.1, show 10 - 0 = 9 + 1 from rfl, rdGo_last HX.out hA'.out hB'.out hC'.out]
          rfl
         have OS := or_step u 0 x.toNat HW.out.2.2.1 (by omega) hx256 (by omega)
         simp only [Nat.mul_zero, Int.pow_zero, Int.mul_one] at OS
         rw [E.out, OS, unzig_bits _ (step_64 HW.out.2.2.1 (by omega) (by omega))]
         exact ⟨rfl, (HW.out.1.k (by exact Keeps.K)).moved (by omega) _ (by omega), (KK.out _).setCell (.inl (by simp)) _⟩
       ·have a3 : (k : Int) ≠ 9 := by omega
        have a4 : (k == 9) = false := by simp; omega
        have a5 : (0 : Int) < (k : Int) := by omega
        have a6 : (x.toNat : Int) ≠ 0 := by have := hB'.out; omega
        have a7 : ((x.toNat : Int) == 0) = false := by simp; have := hB'.out; omega
        go_wp2_with fail
        go_quiet (fail)
        go_wp2_with fail
        go_quiet (fail)
        go_wp2_with fail
        all_goals
         simp only [Exit.jump, Exit.then, Exit.inBlock]
         go_ret
         have E : Hid (rdD bs p false = (unzig (u + x.toNat % 128 * 128 ^ k), p + (k + 1), false)) := by
          show _ = _
          unfold rdD
          obtain ⟨f, hf⟩ : ∃ f, 10 - k = f + 1 := ⟨9 - k, by omega⟩
          rw [HW.out.2.2.2.1, hf, rdGo_last HX.out hA'.out hB'.out hC'.out]
          rfl
         rw [E.out, or_step u k x.toNat HW.out.2.2.1 (by omega) hx256 (by have := hA'.out; omega), unzig_bits _ (step_64 HW.out.2.2.1 (by omega) (by have := hA'.out; omega))]
         exact ⟨rfl, (HW.out.1.k (by exact Keeps.K)).moved (by omega) _ (by omega), (KK.out _).setCell (.inl (by simp)) _⟩
     ·have a2 : (128 : Int) ≤ (x.toNat : Int) := by omega
      have a3 : (k : Int) ≠ 9 := by omega
      have a4 : (k == 9) = false := by simp; omega
      have hA' := hid hA
      have hB' := hid hB
      have hC' := hid hC
      clear hA hB hC
      go_wp2_with fail
      go_quiet (fail)
      go_wp2_with fail
      go_quiet (fail)
      go_wp2_with fail
      all_goals
       refine ⟨⟨k + 1, u + x.toNat % 128 * 128 ^ k, by rw [or_step u k x.toNat HW.out.2.2.1 (by omega) hx256 (by omega)], by simp, by omega, ⟨?_, by simp, step_bound HW.out.2.2.1, ?_, ?_⟩⟩, by simp [intOf]; omega⟩
       ·exact (HW.out.1.k (by exact Keeps.K)).moved (by omega) _ (by omega)
       ·rw [HW.out.2.2.2.1]
        obtain ⟨f, hf⟩ : ∃ f, 10 - k = f + 1 := ⟨9 - k, by omega⟩
        rw [hf, rdGo_next HX.out hA'.out hB'.out hC'.out, show 10 - (k + 1) = f by omega]
        rfl
       ·exact (KK.out _).setCell (.inl (by simp)) _
    ·have hp' : (bs.length : Int) ≤ (p : Int) + (k : Int) := by omega
     go_wp2_with fail
     go_quiet (fail)
     go_wp2_with fail
     refine wp_label ?_
     go_wp2_with fail
     simp only [Exit.jump, Exit.then, Exit.inBlock]
     go_ret
     have E : Hid (rdD bs p false = (0, p + k, true)) := by
      show _ = _
      unfold rdD
      rw [HW.out.2.2.2.1, List.drop_of_length_le (by omega)]
      obtain ⟨f, hf⟩ : ∃ f, 10 - k = f + 1 := ⟨9 - k, by omega⟩
      rw [hf]
      rfl
     rw [E.out]
     exact ⟨rfl, (HW.out.1.k Keeps.K).wrong, by
      have kk : Keeps [n] w (wr.drewN nq) := HW.out.2.2.2.2.trans (G := []) (by exact Keeps.K) (fun _ _ h => by cases h)
      exact kk.setCell (.inl (by simp)) _⟩
   ·go_wp2_with fail
    go_quiet (fail)
    go_wp2_with fail
    refine wp_label ?_
    go_wp2_with fail
    simp only [Exit.jump, Exit.then, Exit.inBlock]
    go_ret
    have k0 : k = 0 := by
     rcases Nat.eq_zero_or_pos k with h | h
     ·exact h
     ·exact absurd (HW.out.2.1 (by omega)) (by simp)
    subst k0
    exact ⟨rfl, (HW.out.1.k Keeps.K).wrong, by
     have kk : Keeps [n] w (wr.drewN nq) := HW.out.2.2.2.2.trans (G := []) (by exact Keeps.K) (fun _ _ h => by cases h)
     exact kk.setCell (.inl (by simp)) _⟩
  ·have hge : (10 : Int) ≤ (k : Int) := by omega
   obtain rfl : bad = false := HW.out.2.1 (by omega)
   have k10 : k = 10 := by omega
   subst k10
   go_wp2_with fail
   go_quiet (fail)
   go_wp2_with fail
   refine wp_label ?_
   go_wp2_with fail
   simp only [Exit.jump, Exit.then, Exit.inBlock]
   go_ret
   have E : Hid (rdD bs p false = (0, p + 10, true)) := by
    show _ = _
    unfold rdD
    rw [HW.out.2.2.2.1]
    rfl
   rw [E.out]
   exact ⟨rfl, (HW.out.1.k Keeps.K).wrong, by
    have kk : Keeps [n] w (wr.drewN nq) := HW.out.2.2.2.2.trans (G := []) (by exact Keeps.K) (fun _ _ h => by cases h)
    exact kk.setCell (.inl (by simp)) _⟩
def leftD (bs : List UInt8) (p : Nat) (bad : Bool) : Nat := if bad then 0 else bs.length - p
def countD (bs : List UInt8) (p : Nat) (bad : Bool) (most : Int) : Int × Nat × Bool :=
 if (rdD bs p bad).2.2 = true ∨ (rdD bs p bad).1 < 0 ∨ most < (rdD bs p bad).1 ∨ ((leftD bs (rdD bs p bad).2.1 (rdD bs p bad).2.2 : Nat) : Int) < (rdD bs p bad).1 then (0, (rdD bs p bad).2.1, true) else rdD bs p bad
def rtextD (bs : List UInt8) (p : Nat) (bad : Bool) (most : Int) : List UInt8 × Nat × Bool :=
 if (countD bs p bad most).2.2 = true then ([], (countD bs p bad most).2.1, true) else ((bs.drop (countD bs p bad most).2.1).take (countD bs p bad most).1.toNat, (countD bs p bad most).2.1 + (countD bs p bad most).1.toNat, false)
theorem wEnd_any (n : Nat) (a : Option Addr) (c : Nat) (bs : List UInt8) (p : Nat) (bad : Bool) (w : World) (h : RdAt 221 w n a c bs p bad) :
 Calls Tryz.prog 64 #[.pointer (some ⟨n, 0, none⟩)] w fun e w' => e = .returned (.bool (!bad && p == bs.length)) ∧ Keeps [] w w' := by
 have y0 : w.cell? ⟨n, 0, none⟩ = some (.slice a bs.length c) := cell_of_block h.row 0
 have y1 : w.cell? ⟨n, 1, none⟩ = some (.int .i64 p) := cell_of_block h.row 1
 have y2 : w.cell? ⟨n, 2, none⟩ = some (.bool bad) := cell_of_block h.row 2
 have hp : ((p : Int) == (bs.length : Int)) = (p == bs.length) := by
  by_cases e : p = bs.length
  ·subst e; simp
  ·rw [beq_eq_false_iff_ne.2 e, beq_eq_false_iff_ne.2 (by omega)]
 have HP := hid hp
 clear h hp
 rcases bad with _ | _
 ·go_enter Tryz.func64, Tryz.ntmps64
  go_wp2_with fail
  go_quiet (fail)
  go_wp2_with fail
  go_ret
  exact ⟨by first | rw [HP.out]; rfl | (have := HP.out; simp_all), Keeps.K⟩
 ·go_enter Tryz.func64, Tryz.ntmps64
  go_wp2_with fail
  go_quiet (fail)
  go_wp2_with fail
  go_ret
  exact ⟨rfl, Keeps.K⟩
theorem RdAt.kk {t : TypeId} {F : List Nat} {w w' : World} {n : Nat} {a : Option Addr} {c : Nat} {bs : List UInt8} {p : Nat} {bad : Bool} (h : RdAt t w n a c bs p bad) (k : Keeps F w w') (hn : n ∉ F) (hb : ∀ b ∈ ownB (.slice a bs.length c), b ∉ F) : RdAt t w' n a c bs p bad :=
 ⟨(k.block n (Array.getElem?_eq_some_iff.1 h.row).1 hn).trans h.row, h.bytes.keeps k hb, h.apart, h.place, h.short⟩
theorem RdAt.lt {t : TypeId} {w : World} {n : Nat} {a : Option Addr} {c : Nat} {bs : List UInt8} {p : Nat} {bad : Bool} (h : RdAt t w n a c bs p bad) : n < w.heap.size := (Array.getElem?_eq_some_iff.1 h.row).1
def getD (bs : List UInt8) (p : Nat) (bad : Bool) : ValD × Nat × Bool :=
 match rdD bs p bad with
 | (k, q, b) => match rdD bs q b with
   | (n, q2, b2) => match rtextD bs q2 b2 400 with
     | (s, q3, b3) => if b3 = true ∨ checkD ⟨k, n, str s⟩ = false then (⟨0, 0, ⟨#[]⟩⟩, q3, true) else (⟨k, n, str s⟩, q3, false)
theorem wNew_any (v : Value) (bs : List UInt8) (w : World) (hr : Reads w 1 v bs.length (u8s bs)) (hb : bs.length ≤ 140737488355328) : Calls Tryz.prog 60 #[v] w fun e w' =>
 ∃ n a c, e = .returned (.pointer (some ⟨n, 0, none⟩)) ∧ w.heap.size ≤ n ∧ RdAt 221 w' n a c bs 0 false ∧ Keeps [] w w' ∧ ∀ b ∈ ownB (.slice a bs.length c), w.heap.size ≤ b ∧ b < w'.heap.size := by
 obtain ⟨i0, hi, hz0, hz1, hz2⟩ := info_parts Tryz.infoU8
 go_enter Tryz.func60, Tryz.ntmps60
 go_wp2_with (at_builtin; refine wpList_append_copy _ rfl (.tmp 3) 27 rfl 5 i0 (.int .u8 0) 1 1 Tryz.underlying27 hi hz0 hz1 hz2 rfl (by decide) v bs.length (u8s bs) rfl hr (u8s_one bs) (by omega) (le_maxLen (by omega)) ?_)
 intro v' w' h1 h2
 obtain ⟨a, c, rfl⟩ := len_form h1
 have H1 := hid h1
 have K2 : Hid (Keeps [] w w') := Keeps.ofGrown h2 (fun _ h => by cases h)
 clear h1 h2
 go_wp2_with fail
 go_ret
 have G := ownB_ge H1.out
 have S := K2.out.size
 refine ⟨_, a, c, rfl, S, ⟨heap_alloc_new _ _, (Reads.ofOwn H1.out).keeps ((Keeps.refl [] w').alloc _) (fun _ _ h => by cases h), fun _ b h e => by have := (G _ h).2; omega, by omega, hb⟩, K2.out.alloc _, fun b h => ⟨(G b h).1, by have := (G b h).2; simp; omega⟩⟩
def zeroC : CmdD := ⟨0, 0, 0, ⟨#[]⟩, 0, ⟨0, 0, ⟨#[]⟩⟩⟩
def raw1 (bs : List UInt8) (k : Int) (p : Nat) (b : Bool) : Int × Int × Nat × Bool :=
 if k = 1 then (0, 0, p, b) else
  match rdD bs p b with
  | (se, p1, b1) => match rdD bs p1 b1 with
    | (sq, p2, b2) => (se, sq, p2, b2)
def raw2 (bs : List UInt8) (k : Int) (p : Nat) (b : Bool) : List UInt8 × Nat × Bool :=
 if k = 2 ∨ k = 4 then rtextD bs p b 24 else ([], p, b)
def raw3 (bs : List UInt8) (k : Int) (p : Nat) (b : Bool) : Int × ValD × Nat × Bool :=
 if k = 2 then
  match rdD bs p b with
  | (vr, p1, b1) => match getD bs p1 b1 with
    | (v, p2, b2) => (vr, v, p2, b2)
 else (0, ⟨0, 0, ⟨#[]⟩⟩, p, b)
def rawC (bs : List UInt8) : CmdD × Nat × Bool :=
 match rdD bs 0 false with
 | (k, p, b) => match raw1 bs k p b with
   | (se, sq, p1, b1) => match raw2 bs k p1 b1 with
     | (fd, p2, b2) => match raw3 bs k p2 b2 with
       | (vr, v, p3, b3) => (⟨k, se, sq, str fd, vr, v⟩, p3, b3)
def getC (bs : List UInt8) : CmdD × Bool := if (rawC bs).2.2 = false ∧ (rawC bs).2.1 = bs.length ∧ checkC (rawC bs).1 = true then ((rawC bs).1, true) else (zeroC, false)
structure GetSt (m n : Nat) (a : Option Addr) (q : Nat) (bs : List UInt8) (w wr : World) (c : CmdD) (p : Nat) (b : Bool) : Prop where
 row : wr.heap[m]? = some (.cells #[.int .i64 c.kind, .int .i64 c.session, .int .i64 c.seq, .string c.field, .int .i64 c.version, .int .i64 c.value.kind, .int .i64 c.value.n, .string c.value.s] 63 (0, 0))
 res : wr.heap[w.heap.size]? = some (.cells #[.int .i64 0, .int .i64 0, .int .i64 0, .string ⟨#[]⟩, .int .i64 0, .int .i64 0, .int .i64 0, .string ⟨#[]⟩] 63 (0, 0))
 rd : RdAt 221 wr n a q bs p b
 keeps : Keeps [] w wr
 apart : w.heap.size < n ∧ n < m ∧ ∀ x ∈ ownB (.slice a bs.length q), w.heap.size < x ∧ x < m
theorem GetSt.step {m n : Nat} {a : Option Addr} {q : Nat} {bs : List UInt8} {w wr w' : World} {c : CmdD} {p p' : Nat} {b b' : Bool} (H : GetSt m n a q bs w wr c p b) (k : Keeps [n] wr w') (h : RdAt 221 w' n a q bs p' b') : GetSt m n a q bs w w' c p' b' :=
 ⟨(k.block _ (Array.getElem?_eq_some_iff.1 H.row).1 (by have := H.apart; simp; omega)).trans H.row, (k.block _ (Array.getElem?_eq_some_iff.1 H.res).1 (by have := H.apart; simp; omega)).trans H.res, h, H.keeps.trans k (fun x hx hx' => by have := H.apart; simp at hx'; omega), H.apart⟩
theorem GetSt.k {m n : Nat} {a : Option Addr} {q : Nat} {bs : List UInt8} {w wr w' : World} {c : CmdD} {p : Nat} {b : Bool} (H : GetSt m n a q bs w wr c p b) (k : Keeps [] wr w') : GetSt m n a q bs w w' c p b :=
 ⟨(k.block _ (Array.getElem?_eq_some_iff.1 H.row).1 (by simp)).trans H.row, (k.block _ (Array.getElem?_eq_some_iff.1 H.res).1 (by simp)).trans H.res, H.rd.k k, H.keeps.trans k (fun _ _ h => h), H.apart⟩
theorem GetSt.set {m n : Nat} {a : Option Addr} {q : Nat} {bs : List UInt8} {w wr w' : World} {c c' : CmdD} {p : Nat} {b : Bool} (H : GetSt m n a q bs w wr c p b) (k : Keeps [m] wr w') (h : w'.heap[m]? = some (.cells #[.int .i64 c'.kind, .int .i64 c'.session, .int .i64 c'.seq, .string c'.field, .int .i64 c'.version, .int .i64 c'.value.kind, .int .i64 c'.value.n, .string c'.value.s] 63 (0, 0))) : GetSt m n a q bs w w' c' p b :=
 ⟨h, (k.block _ (Array.getElem?_eq_some_iff.1 H.res).1 (by have := H.apart; simp; omega)).trans H.res, H.rd.kk k (by have := H.apart; simp; omega) (fun x hx => by have := H.apart.2.2 x hx; simp; omega), H.keeps.trans k (fun x hx hx' => by have := H.apart; simp at hx'; omega), H.apart⟩
end Go.Proofs.YtgjiahilbmeaeaaGreatDoor