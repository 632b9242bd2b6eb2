/- Joined of RfL0, VaY, NdS, WireA, WireB, NdN, NdR, VaI, VaJ, VaK. -/
import Derived.Test.YtgjiahilbmeaeaaGreatDoorR00
import Derived.Lib.ParseIntBCases
import Derived.Lib.Zigzag
import Derived.Lib.Varint
import Derived.Test.YtgjiahilbmeaeaaGreatDoorQ01
import Derived.Laws.BitsAllLaws
import Derived.WalkKit
import Derived.Lib.AppendStr
import Derived.Test.YtgjiahilbmeaeaaGreatDoorQ02
import Derived.Test.YtgjiahilbmeaeaaGreatDoorQ03
import Derived.Deep.OwnRows
import Derived.Laws.IdiomStrings
import Derived.Lib.ConvBytes
import Derived.Lib.Strings
import Derived.Outline
import Derived.Tactics2
import Derived.WalkSmall
import Derived.Defers
import Derived.Recover
set_option maxRecDepth 100000
set_option maxHeartbeats 4000000
set_option linter.unusedSimpArgs false
set_option linter.unusedVariables false
/- ParseInt; which values are shown how. -/
namespace Go.Proofs.YtgjiahilbmeaeaaGreatDoor
open Go Go.RowKit
theorem var_k {w w' : World} {nm : String} {cs : Array Value} (h : w.var? Tryz.prog nm = some cs) (k : Keeps [] w w') : w'.var? Tryz.prog nm = some cs := by
 unfold World.var? at h ⊢
 cases hg : Tryz.prog.globalNamed nm with
 | none => simp [hg] at h
 | some g =>
   simp only [hg, Option.bind_some] at h ⊢
   have hlt : g < w.heap.size := by
    rcases Nat.lt_or_ge g w.heap.size with h' | h'
    ·exact h'
    ·simp [Array.getElem?_eq_none h'] at h
   rw [k.block g hlt (by simp)]
   exact h
theorem Errs.k {w w' : World} (h : Errs w) (k : Keeps [] w w') : Errs w' := by
 obtain ⟨⟨t, p, h1⟩, ⟨t2, p2, h2⟩⟩ := h
 exact ⟨⟨t, p, var_k h1 k⟩, ⟨t2, p2, var_k h2 k⟩⟩
theorem cParse_any (s : ByteArray) (w : World) (hE : Errs w) (hs : s.size ≤ 1000000) : Calls Tryz.prog 188 #[.string s, .int .i64 10, .int .i64 64] w fun e w' =>
 Keeps [] w w' ∧ ((∃ n, Lib.parseIntB 64 s.data.toList = .ok n ∧ e = .returned (.tuple #[.int .i64 n, .nilIface])) ∨ ((∀ n, Lib.parseIntB 64 s.data.toList ≠ .ok n) ∧ ∃ z t p, e = .returned (.tuple #[.int .i64 z, .iface t p]))) := by
 obtain ⟨⟨t1, p1, h1⟩, ⟨t2, p2, h2⟩⟩ := hE
 cases h : Lib.parseIntB 64 s.data.toList
 ·refine (Tryz.strconv_ParseInt_10_at64_ok s (by omega) _ h w).mono fun e w' hh => ⟨?_, .inl ⟨_, rfl, hh.1⟩⟩
  rcases hh.2 with rfl | ⟨t, rfl⟩
  ·exact Keeps.refl [] _
  ·exact keeps_bytes w _ t
 ·refine (Any.strconv_ParseInt_10_at64_syntax_var Tryz.laysC174 s (by omega) h t1 p1 w h1).mono fun e w' hh => ?_
  obtain ⟨N, he, _, _, hb⟩ := hh
  exact ⟨Keeps.ofBelowSize hb, .inr ⟨fun n hn => by (cases hn), _, _, _, he⟩⟩
 ·refine (Tryz.strconv_ParseInt_10_at64_range_var s (by omega) h t2 p2 w h2).mono fun e w' hh => ?_
  obtain ⟨N, he, _, _, hb⟩ := hh
  exact ⟨Keeps.ofBelowSize hb, .inr ⟨fun n hn => by (cases hn), _, _, _, he⟩⟩
end Go.Proofs.YtgjiahilbmeaeaaGreatDoor
/- A value's bytes: plain. -/
namespace Go.Proofs.YtgjiahilbmeaeaaGreatDoor
open Go
def intL (n : Int) : List UInt8 := Lib.uvarint (Lib.zigzag n)
open Go.RowKit
def crc1 (r : Nat) : Nat := if r % 2 = 1 then (r / 2) ^^^ 3988292384 else r / 2
def crcN : Nat → Nat → Nat
 | 0, r => r
 | k + 1, r => crcN k (crc1 r)
def crcB (r : Nat) (b : UInt8) : Nat := crcN 8 (r ^^^ b.toNat)
def sumD (s : Nat) (l : List UInt8) : Nat := 4294967295 ^^^ l.foldl crcB (4294967295 ^^^ s)
def digitsP : Nat → Nat → List UInt8
 | 0, _ => []
 | d + 1, n => digitsP d (n / 10) ++ [UInt8.ofNat (48 + n % 10)]
def nameP (begins : List UInt8) (n digits : Nat) : List UInt8 := begins ++ digitsP digits n
def numP (l : List UInt8) : Option Nat := if l.all (fun x => decide (48 ≤ x.toNat ∧ x.toNat ≤ 57)) = true then some (l.foldl (fun n x => 10 * n + (x.toNat - 48)) 0) else none
def numberP (begins name : List UInt8) (digits : Nat) : Option Nat := if name.length = begins.length + digits ∧ name.take begins.length = begins then numP (name.drop begins.length) else none
theorem crc1_lt {r : Nat} (h : r < 4294967296) : crc1 r < 4294967296 := by
 unfold crc1
 split
 ·exact Nat.xor_lt_two_pow (n := 32) (by omega) (by decide)
 ·omega
theorem crcN_lt : ∀ (k : Nat) {r : Nat}, r < 4294967296 → crcN k r < 4294967296
 | 0, _, h => h
 | k + 1, _, h => crcN_lt k (crc1_lt h)
theorem crcN_succ : ∀ (k r : Nat), crcN (k + 1) r = crc1 (crcN k r)
 | 0, _ => rfl
 | k + 1, r => by
   show crcN (k + 1) (crc1 r) = _
   rw [crcN_succ k (crc1 r)]
   rfl
theorem crcB_lt {r : Nat} (h : r < 4294967296) (b : UInt8) : crcB r b < 4294967296 :=
 crcN_lt 8 (Nat.xor_lt_two_pow (n := 32) (by omega) (by have := b.toNat_lt; omega))
theorem fold_lt : ∀ (l : List UInt8) {r : Nat}, r < 4294967296 → l.foldl crcB r < 4294967296
 | [], _, h => h
 | b :: l, _, h => fold_lt l (crcB_lt h b)
theorem suMore_any (s : Nat) (hs : s < 4294967296) (a : Option Addr) (c : Nat) (bs : List UInt8) (w : World) (hr : Reads w 1 (.slice a bs.length c) bs.length (u8s bs)) :
 Calls Tryz.prog 159 #[.int .u32 (s : Int), .slice a bs.length c] w fun e w' => e = .returned (.int .u32 (sumD s bs : Int)) ∧ Keeps [] w w' := by
 have HR := hid hr
 have hx : bits .xor .u32 IntKind.u32.max (s : Int) = ((4294967295 ^^^ s : Nat) : Int) := u32_xor_nat 4294967295 s (by decide) hs
 have hs0 : (4294967295 ^^^ s) < 4294967296 := Nat.xor_lt_two_pow (n := 32) (by decide) (by omega)
 obtain ⟨r0, hr0⟩ : ∃ r0, 4294967295 ^^^ s = r0 := ⟨_, rfl⟩
 rw [hr0] at hx hs0
 have HR0 := hid hr0
 clear hr hr0
 go_enter Tryz.func159, Tryz.ntmps159
 go_wp2_with fail
 go_loopw [5, 13] (fun r i wr => ∃ k : Nat, i = .int .i64 (k : Int) ∧ k ≤ bs.length ∧ r = .int .u32 (((bs.take k).foldl crcB r0 : Nat) : Int) ∧ Hid (Keeps [] w wr)) (fun _ i _ => bs.length - (intOf i).toNat)
 case atStart => exact ⟨0, rfl, Nat.zero_le _, by rfl, by show Keeps _ _ _; exact Keeps.K⟩
 case round =>
  obtain ⟨k, rfl, hk, rfl, hK⟩ := hrel
  have HK := hid hK.out
  by_cases hlt : k < bs.length
  ·have i1 : (k : Int) < (bs.length : Int) := by omega
   have i0 : (0 : Int) ≤ (k : Int) := Int.natCast_nonneg _
   have hw1 : IntKind.i64.wrap ((k : Int) + 1) = (k : Int) + 1 := by
    have h63 : bs.length ≤ 9223372036854775807 := by
     rcases HR.out.2 with ⟨h0, _⟩ | ⟨hp, g, off, c', e, hnc, hcm, hgl, hx⟩
     ·omega
     ·simp [maxLen] at *; omega
    rw [IntKind.wrap_i64]; omega
   obtain ⟨g, off, rfl, hcell⟩ : ∃ g off, a = some ⟨g, off, none⟩ ∧ wr.cell? ⟨g, off + k, none⟩ = some (.int .u8 (bs[k].toNat : Int)) := by
    rcases (HR.out.keeps HK.out (fun _ _ h => by cases h)).2 with ⟨h0, _⟩ | ⟨hp, g, off, c', e, hnc, hcm, hgl, hx⟩
    ·omega
    ·simp only [Value.slice.injEq] at e
     exact ⟨g, off, e.1, hx k _ (u8s_get bs k hlt)⟩
   obtain ⟨x, hxx⟩ : ∃ x : Nat, bs[k].toNat = x := ⟨_, rfl⟩
   have hx256 : x < 256 := by rw [← hxx]; exact bs[k].toNat_lt
   obtain ⟨ac, hac⟩ : ∃ ac, (bs.take k).foldl crcB r0 = ac := ⟨_, rfl⟩
   have hacl : ac < 4294967296 := by rw [← hac]; exact fold_lt _ hs0
   rw [hxx] at hcell
   have hxo : bits .xor .u32 (ac : Int) (x : Int) = ((ac ^^^ x : Nat) : Int) := u32_xor_nat ac x hacl (by omega)
   rw [hac]
   have hrl : (ac ^^^ x) < 4294967296 := Nat.xor_lt_two_pow (n := 32) (by omega) (by omega)
   obtain ⟨r1, hr1⟩ : ∃ r1, ac ^^^ x = r1 := ⟨_, rfl⟩
   rw [hr1] at hxo hrl
   have HR1 := hid hr1
   have HAC := hid hac
   have HXX := hid hxx
   clear hr1 hac hxx
   go_wp2_with fail
   go_loopw [5, 21] (fun r i wr => ∃ kk : Nat, i = .int .i64 (kk : Int) ∧ kk ≤ 8 ∧ r = .int .u32 ((crcN kk r1 : Nat) : Int) ∧ Hid (Keeps [] w wr)) (fun _ i _ => 8 - (intOf i).toNat)
   case atStart => exact ⟨0, rfl, Nat.zero_le _, rfl, HK.out⟩
   case round =>
    obtain ⟨kk, rfl, hkk, rfl, hK2⟩ := hrel
    have HK2 := hid hK2.out
    have j0 : (0 : Int) ≤ (kk : Int) := Int.natCast_nonneg _
    by_cases hk8 : kk < 8
    ·have j1 : (kk : Int) < 8 := by omega
     have hw2 : IntKind.i64.wrap ((kk : Int) + 1) = (kk : Int) + 1 := by rw [IntKind.wrap_i64]; omega
     obtain ⟨rr, hrr⟩ : ∃ rr, crcN kk r1 = rr := ⟨_, rfl⟩
     have hrrl : rr < 4294967296 := by rw [← hrr]; exact crcN_lt _ hrl
     have HRR := hid hrr
     rw [hrr]
     clear hrr
     have hand : bits .and .u32 (rr : Int) 1 = ((rr % 2 : Nat) : Int) := by
      have := u32_and_nat rr 1 hrrl (by decide)
      rw [Nat.and_one_is_mod] at this
      exact this
     by_cases hb : rr % 2 = 1
     ·have hb1 : (((rr % 2 : Nat) : Int) == 1) = true := by rw [hb]; rfl
      have hx2 : bits .xor .u32 ((rr : Int) / 2) 3988292384 = ((crc1 rr : Nat) : Int) := by
       have := u32_xor_nat (rr / 2) 3988292384 (by omega) (by decide)
       rw [show ((rr / 2 : Nat) : Int) = (rr : Int) / 2 by omega] at this
       unfold crc1
       rw [if_pos hb]
       exact this
      have HC : Hid (crcN (kk + 1) r1 = crc1 rr) := by rw [crcN_succ, HRR.out]; rfl
      go_wp2_with fail
      exact ⟨⟨kk + 1, rfl, by omega, by rw [HC.out], HK2.out⟩, by simp [intOf]; omega⟩
     ·have hb1 : (((rr % 2 : Nat) : Int) == 1) = false := by rw [beq_eq_false_iff_ne]; omega
      have HC : Hid (crcN (kk + 1) r1 = crc1 rr) := by rw [crcN_succ, HRR.out]; rfl
      have hx2 : ((crc1 rr : Nat) : Int) = (rr : Int) / 2 := by unfold crc1; rw [if_neg hb]; omega
      go_wp2_with fail
      exact ⟨⟨kk + 1, rfl, by omega, by rw [HC.out, hx2], HK2.out⟩, by simp [intOf]; omega⟩
    ·have j1 : (8 : Int) ≤ (kk : Int) := by omega
     obtain rfl : kk = 8 := by omega
     have HST : Hid ((bs.take (k + 1)).foldl crcB r0 = crcN 8 r1) := by
      show _ = _
      rw [List.take_add_one, List.getElem?_eq_getElem hlt, Option.toList_some, List.foldl_append, HAC.out]
      show crcB ac bs[k] = _
      unfold crcB
      rw [HXX.out, HR1.out]
     go_wp2_with fail
     exact ⟨⟨k + 1, rfl, by omega, by rw [HST.out], HK2.out⟩, by simp [intOf]; omega⟩
  ·have i1 : (bs.length : Int) ≤ (k : Int) := by omega
   obtain rfl : k = bs.length := by omega
   have hfl := fold_lt bs hs0
   have hxe : bits .xor .u32 IntKind.u32.max ((bs.foldl crcB r0 : Nat) : Int) = ((sumD s bs : Nat) : Int) := by
    have := u32_xor_nat 4294967295 _ (by decide) hfl
    unfold sumD
    rw [HR0.out]
    exact this
   rw [List.take_length]
   go_wp2_with fail
   refine bodyPost_ret (v := .int .u32 ((sumD s bs : Nat) : Int)) (by simp [results, Tryz.results159, go_sem, hxe]) rfl ?_
   exact ⟨rfl, HK.out⟩
theorem suOf_any (a : Option Addr) (c : Nat) (bs : List UInt8) (w : World) (hr : Reads w 1 (.slice a bs.length c) bs.length (u8s bs)) :
 Calls Tryz.prog 160 #[.slice a bs.length c] w fun e w' => e = .returned (.int .u32 (sumD 0 bs : Int)) ∧ Keeps [] w w' := by
 have HM := hid (suMore_any 0 (by decide) a c bs w hr)
 clear hr
 go_enter Tryz.func160, Tryz.ntmps160
 go_wp2_with fail
 refine HM.out.mono ?_
 rintro e w1 ⟨rfl, hk⟩
 have K1 := hid hk
 clear hk
 go_wp2_with fail
 go_ret
 exact ⟨rfl, K1.out⟩
theorem u8s_snoc (bs cs : List UInt8) : u8s (bs ++ cs) = u8s bs ++ u8s cs := by simp [u8s]
def PutSt (w : World) (base : Nat) (v : Value) (bs : List UInt8) : Prop :=
 w.ownsRow base 5 1 v bs.length (u8s bs) ∨ ∃ ao, v = .slice ao bs.length bs.length ∧ Reads w 1 v bs.length (u8s bs)
theorem wpList_put1 {ops : Array Oper} {rest : List Oper} {o : Oper} {a : Act} {Q : Exit → Act → World → Prop} (w : World) (hgd : o.guard = none) (s x : Operand)
 (ho : o.op = .call { callee := .builtin .append, args := #[s, x], argTypes := #[27, 27] })
 (base : Nat) (i : TypeInfo) (hi : Tryz.prog.info? 5 = some i) (hz : i.zero = some (.int .u8 0)) (hsize : i.size = 1) (hby : i.bytes = 1)
 (v : Value) (hs : a.eval s = v) (bs : List UInt8) (n : Nat) (hn : bs.length = n) (hst : PutSt w base v bs) (b : Nat) (hx : a.eval x = .slice (some ⟨b, 0, none⟩) 1 1) (c : UInt8) (z : Int) (hc : z = (c.toNat : Int)) (t' : TypeId) (fr : Nat × Nat) (hb : w.heap[b]? = some (.cells #[.int .u8 z] t' fr))
 (hbytes : n + 1 ≤ 140737488355328) (hbase : base ≤ w.heap.size)
 (h : ∀ a' c' w', Hid (w'.ownsRow base 5 1 (.slice a' (n + 1) c') (n + 1) (u8s (bs ++ [c]))) → Hid (∀ w0 : World, w0.heap.size ≤ base → Keeps [] w0 w → Keeps [] w0 w') → wpList Tryz.prog ops Q rest (a.put o.dst (.slice a' (n + 1) c')) w') : wpList Tryz.prog ops Q (o :: rest) a w := by
 subst hn
 subst hc
 have h63 : bs.length + 1 ≤ maxLen := le_maxLen (by omega)
 have hr : Reads w 1 (.slice (some ⟨b, 0, none⟩) 1 1) 1 (u8s [c]) := Reads.ofBlock hb rfl (by unfold maxLen; omega)
 rcases hst with hown | ⟨ao, rfl, hrd⟩
 ·refine wpList_append_reads w hgd s x 27 ho base 5 i (.int .u8 0) 1 1 Tryz.underlying27 hi hz hsize hby rfl (by decide) v hs bs.length (u8s bs) hown _ hx 1 (u8s [c]) hr (u8s_one _) (by omega) h63 hbase fun a' c' w' g1 g2 _ _ => ?_
  refine h a' c' w' (by show w'.ownsRow _ _ _ _ _ _; rw [u8s_snoc]; exact g1.out) fun w0 hw0 k0 => ?_
  exact k0.trans (Keeps.ofGrown (F := ownB v) g2.out (fun k hk => by rw [mem_ownB]; exact hk)) (fun k hk hm => by have := (ownB_ge hown k hm).1; omega)
 ·refine wpList_append_grows w hgd s x 27 ho 5 i (.int .u8 0) 1 1 Tryz.underlying27 hi hz hsize hby rfl (by decide) ao bs.length bs.length (u8s bs) hs ?_ (by rw [u8s_length, Nat.mul_one]) ?_ ⟨b, 0, none⟩ 1 1 (u8s [c]) hx (by simp [u8s]) ?_ (u8s_one _) (by omega) h63 (by omega) fun v' w' g1 g2 => ?_
  ·intro hn
   rcases hrd.2 with ⟨h0, _⟩ | ⟨_, g, off, c, hv, _⟩
   ·exact ⟨h0, h0⟩
   ·rw [hn] at hv; cases hv
  ·intro g hg j u hu
   rcases hrd.2 with ⟨h0, _⟩ | ⟨_, b', off, c', hv, _, _, _, hcell⟩
   ·have : bs = [] := List.eq_nil_of_length_eq_zero h0
    subst this
    simp [u8s] at hu
   ·rw [hg] at hv
    cases hv
    have := hcell j u hu
    rw [addr_add]
    exact this
  ·intro j u hu
   rw [addr_add, Nat.zero_add]
   refine (cell_of_block hb j).trans ?_
   simp [u8s] at hu ⊢
   exact hu
  ·obtain ⟨a', c', rfl⟩ := len_form g1
   refine h a' c' w' (by show w'.ownsRow _ _ _ _ _ _; rw [u8s_snoc]; exact ownsRow_base g1 hbase) fun w0 hw0 k0 => ?_
   exact k0.trans (Keeps.ofGrown (F := []) g2 (fun _ h => by cases h)) (fun _ _ h => h)
theorem zz (v : Int) (hv : I64 v) : bits .xor .u64 (IntKind.u64.wrap (IntKind.u64.wrap v * 2)) (IntKind.u64.wrap (v / 9223372036854775808)) = ((Lib.zigzag v : Nat) : Int) := by
 obtain ⟨v0, v1⟩ := hv
 by_cases h : 0 ≤ v
 ·have e1 : v / 9223372036854775808 = 0 := by omega
  rw [e1, Lib.zigzag_nonneg h]
  have e2 : IntKind.u64.wrap (IntKind.u64.wrap v * 2) = ((v.toNat * 2 : Nat) : Int) := by rw [IntKind.wrap_u64, IntKind.wrap_u64]; omega
  have e3 : IntKind.u64.wrap 0 = ((0 : Nat) : Int) := by decide
  rw [e2, e3, bits_xor_u64_nat _ _ (by omega) (by decide), Nat.xor_zero]
  omega
 ·have e1 : v / 9223372036854775808 = -1 := by omega
  have e2 : IntKind.u64.wrap (-1) = IntKind.u64.max := by decide
  rw [e1, e2, ← Lib.zigzag_neg v0 (by omega)]
  have e3 : IntKind.u64.wrap (IntKind.u64.wrap v * 2) = (((2 * v + 18446744073709551616).toNat : Nat) : Int) := by
   rw [IntKind.wrap_u64, IntKind.wrap_u64]; omega
  have e4 : IntKind.u64.max = ((2 ^ 64 - 1 : Nat) : Int) := by decide
  rw [e3, e4, bits_xor_u64_nat _ _ (by omega) (by decide), bits_xor_u64_nat _ _ (by decide) (by omega), Nat.xor_comm]
theorem byte_of (n : Nat) (h : n < 256) : ((n.toUInt8).toNat : Int) = (n : Int) := by simp; omega
theorem PutSt.k {w w' : World} {base : Nat} {v : Value} {bs : List UInt8} (h : PutSt w base v bs) (k : Keeps [] w w') : PutSt w' base v bs := by
 rcases h with h | ⟨ao, rfl, h⟩
 ·exact .inl (ownsRow_keeps h k (fun _ _ h => by cases h))
 ·exact .inr ⟨ao, rfl, h.keeps k (fun _ _ h => by cases h)⟩
theorem Reads.full {w : World} {a : Option Addr} {n c : Nat} {xs : List Value} (h : Reads w 1 (.slice a n c) n xs) : Reads w 1 (.slice a n n) n xs := by
 obtain ⟨hl, h | ⟨hp, b, off, c', hv, hnc, hc, hb, hx⟩⟩ := h
 ·exact ⟨hl, .inl ⟨h.1, a, 0, by rw [h.1]⟩⟩
 ·cases hv
  exact ⟨hl, .inr ⟨hp, b, off, n, rfl, Nat.le_refl _, Nat.le_trans hnc hc, hb, hx⟩⟩
def PutPost (bs xs : List UInt8) (w : World) (e : Ending) (w' : World) : Prop :=
 ∃ a q, e = .returned (.slice a (bs ++ xs).length q) ∧ w'.ownsRow w.heap.size 5 1 (.slice a (bs ++ xs).length q) (bs ++ xs).length (u8s (bs ++ xs)) ∧ Keeps [] w w'
theorem putInt_any (a : Option Addr) (bs : List UInt8) (c : Nat) (v : Int) (hv : I64 v) (w : World) (hr : Reads w 1 (.slice a bs.length c) bs.length (u8s bs)) (hb : bs.length ≤ 140737488355000) :
 Calls Tryz.prog 119 #[.slice a bs.length c, .int .i64 v] w (PutPost bs (Lib.uvarint (Lib.zigzag v)) w) := by
 obtain ⟨ip, hi, hz0, hz1, hz2⟩ := info_parts Tryz.infoU8
 have HR := hid hr
 obtain ⟨v0, v1⟩ := hv
 have hlc : bs.length ≤ c := by
  rcases hr.2 with ⟨h0, _⟩ | ⟨_, b, off, c', hv, h, _⟩
  ·omega
  ·cases hv; exact h
 clear hr
 go_enter Tryz.func119, Tryz.ntmps119
 go_wp2_with fail
 rw [zz v ⟨v0, v1⟩]
 have hz64 := Lib.zigzag_lt v0 v1
 have HU : Hid ((Lib.uvarint (Lib.zigzag v)).length ≤ 10) := Lib.uvarint_length64 hz64
 obtain ⟨z, hz⟩ : ∃ z, Lib.zigzag v = z := ⟨_, rfl⟩
 have HZG := hid hz
 rw [hz] at hz64 HU ⊢
 clear hz
 go_loopw [0, 5] (fun s u wr => ∃ (acc : List UInt8) (n x q : Nat) (ao : Option Addr), x ≤ z ∧ n ≤ bs.length + 10 ∧ s = .slice ao n q ∧ u = .int .u64 x ∧ Hid ((bs ++ acc).length = n ∧ PutSt wr w.heap.size (.slice ao n q) (bs ++ acc) ∧ Lib.uvarint z = acc ++ Lib.uvarint x ∧ Keeps [] w wr)) (fun _ u _ => (intOf u).toNat)
 case atStart => exact ⟨[], bs.length, z, bs.length, a, Nat.le_refl _, by omega, rfl, rfl, by simp, .inr ⟨a, by simp, by simpa using HR.out.full⟩, by simp, Keeps.refl [] w⟩
 case round =>
  obtain ⟨acc, n, x, q, ao, hxz, hnb, rfl, rfl, HW⟩ := hrel
  have i0 : (0 : Int) ≤ (x : Int) := Int.natCast_nonneg _
  have HZ : Hid (w.heap.size ≤ wr.heap.size) := HW.out.2.2.2.size
  have HN : Hid ((bs ++ acc).length = n) := HW.out.1
  have hn63 : n + 1 ≤ 140737488355328 := by omega
  by_cases hlt : 128 ≤ x
  ·have hlt' : (128 : Int) ≤ (x : Int) := by omega
   have hx64 : x < 18446744073709551616 := by omega
   go_wp2_with (at_builtin; go_must (refine wpList_put1 _ (by rfl) _ _ (by rfl) w.heap.size ip hi hz0 hz1 hz2 (.slice ao n q) (by rfl) (bs ++ acc) n HN.out (HW.out.2.1.k (by exact Keeps.K)) wr.heap.size (by rfl) ((x % 128 + 128).toUInt8) _ (by rw [Lib.u8_or128_any _ (by omega) (by omega), byte_of _ (by omega)]; omega) 5 (0, 0) (heap_alloc_new _ _) hn63 (Nat.le_trans HZ.out (by simp)) ?_; intro a4 q4 w4 ho4 hk4))
   have HB := Lib.uvarint_big (by omega : 128 ≤ x)
   have HL := HU.out
   rw [HW.out.2.2.1, HB] at HL
   simp only [List.length_append, List.length_cons] at HL
   have HP : 1 ≤ (Lib.uvarint (x / 128)).length := Lib.uvarint_pos _
   have hn0 := HN.out
   rw [List.length_append] at hn0
   refine ⟨⟨acc ++ [(x % 128 + 128).toUInt8], n + 1, x / 128, q4, a4, by omega, by omega, rfl, by simp, ⟨by simp; omega, ?_, ?_, ?_⟩⟩, by simp [intOf]; omega⟩
   ·rw [← List.append_assoc]
    refine .inl ?_
    have hl : (bs ++ acc ++ [(x % 128 + 128).toUInt8]).length = n + 1 := by simp; omega
    rw [hl]
    exact ho4.out
   ·rw [HW.out.2.2.1, HB]; simp
   ·exact hk4.out w (Nat.le_refl _) (by have kk := HW.out.2.2.2; exact Keeps.K)
  ·have hge : (x : Int) < 128 := by omega
   go_wp2_with (at_builtin; go_must (refine wpList_put1 _ (by rfl) _ _ (by rfl) w.heap.size ip hi hz0 hz1 hz2 (.slice ao n q) (by rfl) (bs ++ acc) n HN.out (HW.out.2.1.k (by exact Keeps.K)) wr.heap.size (by rfl) (x.toUInt8) _ (by rw [byte_of _ (by omega)]) 5 (0, 0) (heap_alloc_new _ _) hn63 (Nat.le_trans HZ.out (by simp)) ?_; intro a4 q4 w4 ho4 hk4))
   go_ret
   have HB := Lib.uvarint_small (by omega : x < 128)
   have E : Hid (Lib.uvarint z = acc ++ [x.toUInt8]) := by show _ = _; rw [HW.out.2.2.1, HB]
   rw [HZG.out, E.out]
   have hl : (bs ++ (acc ++ [x.toUInt8])).length = n + 1 := by have := HN.out; simp at this ⊢; omega
   refine ⟨a4, q4, by rw [hl]; rfl, ?_, hk4.out w (Nat.le_refl _) (by have kk := HW.out.2.2.2; exact Keeps.K)⟩
   rw [hl, ← List.append_assoc]
   exact ho4.out
theorem Reads.k0 {w w' : World} {v : Value} {n : Nat} {xs : List Value} (h : Reads w 1 v n xs) (k : Keeps [] w w') : Reads w' 1 v n xs := h.keeps k (fun _ _ h => by cases h)
theorem intL_len {v : Int} (hv : I64 v) : (intL v).length ≤ 10 := Lib.uvarint_length64 (Lib.zigzag_lt hv.1 hv.2)
theorem digits_cons : ∀ (t n : Nat), digitsP (t + 1) n = UInt8.ofNat (48 + n / 10 ^ t % 10) :: digitsP t n
 | 0, n => by simp [digitsP]
 | t + 1, n => by
   show digitsP (t + 1) (n / 10) ++ [UInt8.ofNat (48 + n % 10)] = _
   rw [digits_cons t (n / 10), Nat.div_div_eq_div_mul, Nat.pow_succ, Nat.mul_comm (10 ^ t) 10]
   rfl
theorem digits_len : ∀ (t n : Nat), (digitsP t n).length = t
 | 0, _ => rfl
 | t + 1, n => by rw [digits_cons, List.length_cons, digits_len t n]
theorem plName_any (s : ByteArray) (n d : Nat) (w : World) (hd : d ≤ 32) (hn : n ≤ 1099511627776) (hs : s.size ≤ 100) :
 Calls Tryz.prog 156 #[.string s, .int .i64 (n : Int), .int .i64 (d : Int)] w fun e w' => e = .returned (.string (s ++ str (digitsP d n))) ∧ Keeps [] w w' := by
 have hmk := run_make_row' (P := Tryz.prog) 27 5 (.int .u8 0) 1 Tryz.underlying27 Tryz.infoU8 rfl .i64 .i64 d (by omega) (by omega)
 have hw0 : IntKind.i64.wrap ((d : Int) - 1) = (d : Int) - 1 := by rw [IntKind.wrap_i64]; omega
 go_enter Tryz.func156, Tryz.ntmps156
 go_wp2_with fail
 have hmz : madeCells #[.int .u8 0] d = (u8s (List.replicate d 0)).toArray := by
  apply Array.toList_inj.1
  rw [toList_madeCells_one]
  simp [u8s]
 go_loopw [1, 8] (fun nv iv wr => ∃ (j : Nat) (L : List UInt8), iv = .int .i64 ((j : Int) - 1) ∧ j ≤ d ∧ nv = .int .i64 ((n / 10 ^ (d - j) : Nat) : Int) ∧ Hid (L.length = d ∧ L.drop j = digitsP (d - j) n ∧ wr.heap[w.heap.size]? = some (.cells (u8s L).toArray 5 (0, 0)) ∧ Keeps [] w wr)) (fun _ iv _ => (intOf iv + 1).toNat)
 case atStart =>
  refine ⟨d, List.replicate d 0, rfl, Nat.le_refl _, by simp, by simp, by simp [digitsP], ?_, ?_⟩
  ·rw [hmz]; exact heap_alloc_new _ _
  ·show Keeps _ _ _; exact Keeps.K
 case round =>
  obtain ⟨j, L, rfl, hj, rfl, hW⟩ := hrel
  have HW := hid hW
  clear hW
  obtain ⟨m, hm⟩ : ∃ m : Nat, n / 10 ^ (d - j) = m := ⟨_, rfl⟩
  have hml : m ≤ n := by rw [← hm]; exact Nat.div_le_self _ _
  have HM := hid hm
  rw [hm]
  clear hm
  by_cases hj0 : j = 0
  ·subst hj0
   obtain ⟨hl, hdr, hb, hk⟩ := HW.out
   have hLd : L = digitsP d n := by simpa using hdr
   subst hLd
   have HKK := hid hk
   have hsz : (str (digitsP d n)).size = d := by show (digitsP d n).toArray.size = d; rw [List.size_toArray]; exact digits_len d n
   have hR : Reads wr 1 (.slice (some ⟨w.heap.size, 0, none⟩) d d) d (u8s (digitsP d n)) := by
    have := Reads.ofBlock (n := d) (size := 1) hb (by simp [u8s, digits_len]) (by unfold maxLen; omega)
    simpa using this
   have cv := run_convert_str wr 27 9 5 _ (digitsP d n) Tryz.underlying27 Tryz.underlying5 Tryz.underlying9 (by rw [digits_len]; exact hR)
   clear hk hb hl hdr
   go_wp2_with fail
   go_ret
   exact ⟨rfl, HKK.out⟩
  ·have i0 : (0 : Int) ≤ (j : Int) - 1 := by omega
   have i1 : ((j : Int) - 1).toNat < d := by omega
   have hw1 : IntKind.i64.wrap ((j : Int) - 1 - 1) = (j : Int) - 1 - 1 := by rw [IntKind.wrap_i64]; omega
   have ht1 : ((m : Int).tmod 10) = ((m % 10 : Nat) : Int) := by rw [Int.tmod_eq_emod_of_nonneg (by omega)]; omega
   have ht2 : ((m : Int).tdiv 10) = ((m / 10 : Nat) : Int) := by rw [Int.tdiv_eq_ediv_of_nonneg (by omega)]; omega
   obtain ⟨hl, hdr, hb, hk⟩ := HW.out
   have hlj : j - 1 < L.length := by omega
   have cj : wr.cell? ⟨w.heap.size, j - 1, none⟩ = some (.int .u8 ((L[j - 1]'hlj).toNat : Int)) := by
    rw [cell_of_block hb (j - 1)]
    simpa using u8s_get L (j - 1) hlj
   have fj : wr.frozen? ⟨w.heap.size, j - 1, none⟩ = false := frozen_of_row wr w.heap.size (j - 1) _ _ hb
   have hbl : w.heap.size < wr.heap.size := (Array.getElem?_eq_some_iff.1 hb).1
   have hlt := Nat.mod_lt m (show 0 < 10 by decide)
   have hv : ((UInt8.ofNat (48 + m % 10)).toNat : Int) = 48 + (m : Int) % 10 := by
    rw [UInt8.toNat_ofNat', Nat.mod_eq_of_lt (by omega)]; omega
   have hend := heap_setCell_same _ _ (j - 1) _ _ (.int .u8 (48 + (m : Int) % 10)) hb
   have hset : (u8s L).toArray.setIfInBounds (j - 1) (.int .u8 (48 + (m : Int) % 10)) = (u8s (L.set (j - 1) (UInt8.ofNat (48 + m % 10)))).toArray := by
    rw [List.setIfInBounds_toArray, ← hv]
    unfold u8s
    rw [List.map_set]
   rw [hset] at hend
   have HEND := hid hend
   have HKK := hid hk
   have HDR : Hid ((L.set (j - 1) (UInt8.ofNat (48 + m % 10))).drop (j - 1) = digitsP (d - (j - 1)) n) := by
    show _ = _
    rw [show d - (j - 1) = (d - j) + 1 by omega, digits_cons, HM.out, ← hdr, List.drop_eq_getElem_cons (by simpa using hlj), List.getElem_set_self, show j - 1 + 1 = j by omega, List.drop_set_of_lt (by omega)]
   have HMM : Hid (n / 10 ^ (d - (j - 1)) = m / 10) := by
    show _ = _
    rw [show d - (j - 1) = (d - j) + 1 by omega, Nat.pow_succ, ← Nat.div_div_eq_div_mul, HM.out]
   have HLL := hid hl
   clear hend hset hb hk hdr hl
   go_wp2_with fail
   refine ⟨⟨j - 1, L.set (j - 1) (UInt8.ofNat (48 + m % 10)), by congr 1; omega, by omega, by rw [HMM.out]; congr 1, by rw [List.length_set]; exact HLL.out, HDR.out, HEND.out, HKK.out.trans (G := [w.heap.size]) (by exact Keeps.K) (fun x hx hm => by simp at hm; omega)⟩, by simp [intOf]; omega⟩
def numT (o : Option Nat) : Value := match o with
 | none => .tuple #[.int .i64 0, .bool false]
 | some n => .tuple #[.int .i64 (n : Int), .bool true]
def dig1 (n : Nat) (x : UInt8) : Nat := 10 * n + (x.toNat - 48)
theorem numF_lt : ∀ (l : List UInt8) (n : Nat), (∀ x ∈ l, 48 ≤ x.toNat ∧ x.toNat ≤ 57) → l.foldl dig1 n < (n + 1) * 10 ^ l.length
 | [], n, _ => by simp
 | x :: l, n, h => by
   have h2 := h x (by simp)
   have ih := numF_lt l (dig1 n x) (fun y hy => h y (by simp [hy]))
   rw [List.foldl_cons, List.length_cons, Nat.pow_succ]
   have h3 : dig1 n x + 1 ≤ 10 * (n + 1) := by unfold dig1; omega
   have h4 := Nat.mul_le_mul_right (10 ^ l.length) h3
   rw [show (n + 1) * (10 ^ l.length * 10) = 10 * (n + 1) * 10 ^ l.length by rw [Nat.mul_comm (10 ^ l.length) 10, ← Nat.mul_assoc, Nat.mul_comm (n + 1) 10]]
   omega
def isDig (x : UInt8) : Bool := decide (48 ≤ x.toNat ∧ x.toNat ≤ 57)
theorem numberP_ne {a b : List UInt8} {d : Nat} (h : b.length ≠ a.length + d) : numberP a b d = none := if_neg (fun h' => h h'.1)
theorem numberP_ne2 {a b : List UInt8} {d : Nat} (h : b.take a.length ≠ a) : numberP a b d = none := if_neg (fun h' => h h'.2)
theorem numberP_bad {a b : List UInt8} {d : Nat} {x : UInt8} (h : x ∈ b.drop a.length) (hx : isDig x = false) : numberP a b d = none := by
 unfold numberP
 split
 ·unfold numP
  rw [if_neg]
  intro h'
  rw [List.all_eq_true] at h'
  have := h' x h
  unfold isDig at hx
  rw [hx] at this
  cases this
 ·rfl
theorem numberP_is {a b : List UInt8} {d : Nat} (h1 : b.length = a.length + d) (h2 : b.take a.length = a) (h3 : (b.drop a.length).all isDig = true) : numberP a b d = some ((b.drop a.length).foldl dig1 0) := by
 unfold numberP
 rw [if_pos ⟨h1, h2⟩]
 unfold numP
 exact if_pos h3
theorem keepsBy (w : World) (e : TypeId) (q : ByteArray) : Keeps [] w (Lib.bytesWorld w e q) :=
 ⟨rfl, rfl, rfl, by rw [Lib.bytesWorld_size]; omega, fun k hk _ => Lib.bytesWorld_at_old w e q k hk⟩
theorem plNumber_any (a b : ByteArray) (d : Nat) (w : World) (hd : d ≤ 15) (ha : a.size ≤ 100) (hb : b.size ≤ 1000) :
 Calls Tryz.prog 150 #[.string a, .string b, .int .i64 (d : Int)] w fun e w' => e = .returned (numT (numberP a.data.toList b.data.toList d)) ∧ Keeps [] w w' := by
 have hsa : a.data.toList.length = a.size := Array.length_toList
 have hsb : b.data.toList.length = b.size := Array.length_toList
 have hw0 : IntKind.i64.wrap ((a.size : Int) + (d : Int)) = (a.size : Int) + (d : Int) := by rw [IntKind.wrap_i64]; omega
 by_cases h1 : b.size = a.size + d
 ·have c1 : ((b.size : Int) != (a.size : Int) + (d : Int)) = false := by simp; omega
  have i1 : (a.size : Int) ≤ (b.size : Int) := by omega
  have hex : (b.extract 0 a.size).toList = b.data.toList.take a.data.toList.length := by
   rw [Lib.toList_data, Lib.extract_data, hsa, List.drop_zero, Nat.sub_zero]
  have hta : a.toList = a.data.toList := Lib.toList_data a
  by_cases h2 : b.data.toList.take a.data.toList.length = a.data.toList
  ·have c2 : ((b.extract 0 a.size).toList == a.toList) = true := by rw [hex, hta, h2]; simp
   obtain ⟨q, hq⟩ : ∃ q, b.extract a.size b.size = q := ⟨_, rfl⟩
   obtain ⟨l, hl⟩ : ∃ l, b.data.toList.drop a.data.toList.length = l := ⟨_, rfl⟩
   have hql : q.data.toList = l := by rw [← hq, Lib.extract_data, ← hl, hsa, List.take_of_length_le (by rw [List.length_drop]; omega)]
   have hll : l.length = d := by rw [← hl, List.length_drop]; omega
   have hqs : q.size = d := by rw [← hll, ← hql]; exact Array.length_toList.symm
   have HL := hid hl
   have H1 := hid h1
   have H2 := hid h2
   have HSA := hid hsa
   have HSB := hid hsb
   have HLL := hid hll
   have hcv := Lib.run_convert_string_bytes (P := Tryz.prog) w 9 27 5 q Tryz.underlying9 Tryz.underlying27 Tryz.underlying5
   rw [hqs] at hcv
   obtain ⟨cap, hcap⟩ : ∃ cap, grownCap w d 0 5 = cap := ⟨_, rfl⟩
   rw [hcap] at hcv
   have HC : Hid (∀ j, (h : j < l.length) → (Lib.bytesWorld w 5 q).cell? ⟨w.heap.size, j, none⟩ = some (.int .u8 (l[j].toNat : Int))) := fun j hj => by
    rw [Lib.bytesWorld_cell w 5 q j (by omega), hql]
    simp [List.getD, hj]
   have HKB : Hid (Keeps [] w (Lib.bytesWorld w 5 q)) := keepsBy w 5 q
   obtain ⟨wB, hwB⟩ : ∃ wB, Lib.bytesWorld w 5 q = wB := ⟨_, rfl⟩
   rw [hwB] at hcv HC HKB
   clear hl h1 h2 hsa hsb hll hql hqs hwB hcap hex hta
   go_enter Tryz.func150, Tryz.ntmps150
   go_wp2_with fail
   go_loopw [8, 32] (fun nv iv wr => ∃ k : Nat, iv = .int .i64 (k : Int) ∧ k ≤ l.length ∧ nv = .int .i64 (((l.take k).foldl dig1 0 : Nat) : Int) ∧ Hid ((l.take k).all isDig = true ∧ Keeps [] wB wr)) (fun _ iv _ => l.length - (intOf iv).toNat)
   case atStart => exact ⟨0, rfl, Nat.zero_le _, rfl, rfl, by exact Keeps.K⟩
   case round =>
    obtain ⟨k, rfl, hk, rfl, hW⟩ := hrel
    have HW := hid hW
    clear hW
    have j0 : (0 : Int) ≤ (k : Int) := Int.natCast_nonneg _
    by_cases hlt : k < l.length
    ·have i1 : (k : Int) < (d : Int) := by have := HLL.out; omega
     have hw1 : IntKind.i64.wrap ((k : Int) + 1) = (k : Int) + 1 := by rw [IntKind.wrap_i64]; omega
     have hcell : wr.cell? ⟨w.heap.size, k, none⟩ = some (.int .u8 (l[k].toNat : Int)) := HW.out.2.cellSome (HC.out k hlt) (by simp)
     have hkd : k < 15 := by have := HLL.out; omega
     obtain ⟨x, hx⟩ : ∃ x, l[k] = x := ⟨_, rfl⟩
     obtain ⟨n, hn⟩ : ∃ n, (l.take k).foldl dig1 0 = n := ⟨_, rfl⟩
     have hnl : n < 1000000000000000 := by
      have h3 := numF_lt (l.take k) 0 (fun y hy => by have := List.all_eq_true.1 HW.out.1 y hy; simpa [isDig] using this)
      rw [hn] at h3
      have h4 : (l.take k).length ≤ 14 := by rw [List.length_take]; omega
      have h5 : 10 ^ (l.take k).length ≤ 100000000000000 := Nat.le_trans (Nat.pow_le_pow_right (n := 10) (by decide) h4) (by decide)
      omega
     rw [hx] at hcell
     have hmem : x ∈ b.data.toList.drop a.data.toList.length := by rw [HL.out, ← hx]; exact List.getElem_mem _
     have hx2 : l[k]? = some x := by rw [List.getElem?_eq_getElem hlt, hx]
     rw [hn]
     have hxl := x.toNat_lt
     have HX := hid hx2
     have HN := hid hn
     have HLT := hid hlt
     have HMEM := hid hmem
     obtain ⟨xn, hxn⟩ : ∃ xn, x.toNat = xn := ⟨_, rfl⟩
     rw [hxn] at hcell hxl
     have HXN := hid hxn
     clear hx hx2 hn hmem hxn hlt
     by_cases hlo : xn < 48
     ·have q1 : (xn : Int) < 48 := by omega
      have HB : Hid (numberP a.data.toList b.data.toList d = none) := numberP_bad HMEM.out (by unfold isDig; rw [HXN.out]; exact decide_eq_false (by omega))
      go_wp2_with fail
      refine bodyPost_ret (v := .tuple #[.int .i64 0, .bool false]) (by simp [results, Tryz.results150, go_sem]) rfl ?_
      exact ⟨by rw [HB.out]; rfl, HKB.out.trans HW.out.2 (fun _ _ h => h)⟩
     ·have q1 : ((xn : Int) < 48) = False := eq_false (by omega)
      by_cases hhi : 57 < xn
      ·have q2 : 57 < (xn : Int) := by omega
       have HB : Hid (numberP a.data.toList b.data.toList d = none) := numberP_bad HMEM.out (by unfold isDig; rw [HXN.out]; exact decide_eq_false (by omega))
       go_wp2_with fail
       refine bodyPost_ret (v := .tuple #[.int .i64 0, .bool false]) (by simp [results, Tryz.results150, go_sem]) rfl ?_
       exact ⟨by rw [HB.out]; rfl, HKB.out.trans HW.out.2 (fun _ _ h => h)⟩
      ·have q2 : (57 < (xn : Int)) = False := eq_false (by omega)
       have hw2 : IntKind.u8.wrap ((xn : Int) - 48) = (xn : Int) - 48 := by simp [IntKind.wrap, IntKind.signed, IntKind.bits]; omega
       have HF : Hid ((l.take (k + 1)).foldl dig1 0 = 10 * n + (xn - 48)) := by
        show _ = _
        rw [List.take_add_one, HX.out, Option.toList_some, List.foldl_append, HN.out]
        simp [dig1, HXN.out]
       have HA : Hid ((l.take (k + 1)).all isDig = true) := by
        show _ = _
        rw [List.take_add_one, HX.out, Option.toList_some, List.all_append, HW.out.1]
        simp [isDig, HXN.out]
        omega
       go_wp2_with fail
       exact ⟨⟨k + 1, rfl, HLT.out, by rw [HF.out]; congr 1; omega, HA.out, HW.out.2⟩, by have := HLT.out; simp [intOf]; omega⟩
    ·have i1 : (d : Int) ≤ (k : Int) := by have := HLL.out; omega
     obtain rfl : k = l.length := by omega
     rw [List.take_length]
     have HN : Hid (numberP a.data.toList b.data.toList d = some (l.foldl dig1 0)) := by
      have h3 := HW.out.1
      rw [List.take_length] at h3
      have h4 := numberP_is (a := a.data.toList) (b := b.data.toList) (d := d) (by rw [HSA.out, HSB.out]; exact H1.out) H2.out (by rw [HL.out]; exact h3)
      rw [HL.out] at h4
      exact h4
     go_wp2_with fail
     refine bodyPost_ret (v := .tuple #[.int .i64 (l.foldl dig1 0 : Nat), .bool true]) (by simp [results, Tryz.results150, go_sem]) rfl ?_
     exact ⟨by rw [HN.out]; rfl, HKB.out.trans HW.out.2 (fun _ _ h => h)⟩
  ·have c2 : ((b.extract 0 a.size).toList == a.toList) = false := by rw [hex, hta]; simpa using h2
   have HN : Hid (numberP a.data.toList b.data.toList d = none) := numberP_ne2 h2
   clear hsa hsb hex hta h2
   go_enter Tryz.func150, Tryz.ntmps150
   go_wp2_with fail
   refine bodyPost_ret (v := .tuple #[.int .i64 0, .bool false]) (by simp [results, Tryz.results150, go_sem]) rfl ?_
   exact ⟨by rw [HN.out]; rfl, by exact Keeps.K⟩
 ·have c1 : ((b.size : Int) != (a.size : Int) + (d : Int)) = true := by simp; omega
  have HN : Hid (numberP a.data.toList b.data.toList d = none) := numberP_ne (by rw [hsa, hsb]; exact h1)
  clear hsa hsb
  go_enter Tryz.func150, Tryz.ntmps150
  go_wp2_with fail
  refine bodyPost_ret (v := .tuple #[.int .i64 0, .bool false]) (by simp [results, Tryz.results150, go_sem]) rfl ?_
  exact ⟨by rw [HN.out]; rfl, by exact Keeps.K⟩
def boxV (v : ValD) : Value :=
 if checkD v = true then (if v.kind = 1 then .iface 2 (.int .i64 v.n) else if v.kind = 2 then .iface 4 (.bool (v.n == 1)) else if v.kind = 3 then .iface 9 (.string v.s) else if v.kind = 4 then .iface 61 (valV v) else .nilIface) else .nilIface
theorem vcheck_is (v : ValD) (b : Bool) (hb : checkD v = b) (w : World) (hT : Tabs w) (hs : v.s.size ≤ 9223372036854775806) :
 Calls Tryz.prog 173 #[valV v] w fun e w' => e = .returned (.bool b) ∧ Keeps [] w w' := by
 rw [← hb]; exact vCheck_any v w hT hs
theorem vbox_any (v : ValD) (w : World) (hT : Tabs w) (hs : v.s.size ≤ 9223372036854775806) :
 Calls Tryz.prog 300 #[valV v] w fun e w' => e = .returned (boxV v) ∧ Keeps [] w w' := by
 have HT := hid hT
 rcases hc : checkD v with _ | _
 ·have HX : Hid (boxV v = .nilIface) := by show _ = _; unfold boxV; rw [hc]; rfl
  have HC := hid (vcheck_is v _ hc)
  obtain ⟨k, n, s⟩ := v
  unfold valV at HC ⊢
  clear hT hc
  go_enter Tryz.func300, Tryz.ntmps300
  go_wp2_with fail
  refine (HC.out _ (HT.out.k (by exact Keeps.K)) hs).mono ?_
  rintro e w1 ⟨rfl, hk⟩
  have HK : Hid (Keeps [] w w1) := Keeps.trans (by exact Keeps.K) hk (fun _ _ h => h)
  clear hk
  go_wp2_with fail
  go_ret
  exact ⟨by rw [HX.out]; rfl, HK.out⟩
 ·have HX : Hid (boxV v = (if v.kind = 1 then .iface 2 (.int .i64 v.n) else if v.kind = 2 then .iface 4 (.bool (v.n == 1)) else if v.kind = 3 then .iface 9 (.string v.s) else if v.kind = 4 then .iface 61 (valV v) else .nilIface)) := by show _ = _; unfold boxV; rw [if_pos hc]
  have HC := hid (vcheck_is v _ hc)
  obtain ⟨k, n, s⟩ := v
  unfold valV at HC HX ⊢
  simp only at HX
  clear hT hc
  by_cases k1 : k = 1
  ·subst k1
   go_enter Tryz.func300, Tryz.ntmps300
   go_wp2_with fail
   refine (HC.out _ (HT.out.k (by exact Keeps.K)) hs).mono ?_
   rintro e w1 ⟨rfl, hk⟩
   obtain ⟨⟨c0, c1, c2⟩, _⟩ := blk3 ((hk.block w.heap.size (by simp) (by simp)).trans (heap_alloc_new w _))
   have HK : Hid (Keeps [] w w1) := Keeps.trans (by exact Keeps.K) hk (fun _ _ h => h)
   clear hk
   go_wp2_with fail
   go_ret
   exact ⟨by rw [HX.out]; rfl, HK.out⟩
  by_cases k2 : k = 2
  ·subst k2
   go_enter Tryz.func300, Tryz.ntmps300
   go_wp2_with fail
   refine (HC.out _ (HT.out.k (by exact Keeps.K)) hs).mono ?_
   rintro e w1 ⟨rfl, hk⟩
   obtain ⟨⟨c0, c1, c2⟩, _⟩ := blk3 ((hk.block w.heap.size (by simp) (by simp)).trans (heap_alloc_new w _))
   have HK : Hid (Keeps [] w w1) := Keeps.trans (by exact Keeps.K) hk (fun _ _ h => h)
   clear hk
   go_wp2_with fail
   go_ret
   exact ⟨by rw [HX.out]; rfl, HK.out⟩
  by_cases k3 : k = 3
  ·subst k3
   go_enter Tryz.func300, Tryz.ntmps300
   go_wp2_with fail
   refine (HC.out _ (HT.out.k (by exact Keeps.K)) hs).mono ?_
   rintro e w1 ⟨rfl, hk⟩
   obtain ⟨⟨c0, c1, c2⟩, _⟩ := blk3 ((hk.block w.heap.size (by simp) (by simp)).trans (heap_alloc_new w _))
   have HK : Hid (Keeps [] w w1) := Keeps.trans (by exact Keeps.K) hk (fun _ _ h => h)
   clear hk
   go_wp2_with fail
   go_ret
   exact ⟨by rw [HX.out]; rfl, HK.out⟩
  by_cases k4 : k = 4
  ·subst k4
   go_enter Tryz.func300, Tryz.ntmps300
   go_wp2_with fail
   refine (HC.out _ (HT.out.k (by exact Keeps.K)) hs).mono ?_
   rintro e w1 ⟨rfl, hk⟩
   have HBK := hid ((hk.block w.heap.size (by simp) (by simp)).trans (heap_alloc_new w _))
   obtain ⟨⟨c0, c1, c2⟩, _⟩ := blk3 HBK.out
   have HK : Hid (Keeps [] w w1) := Keeps.trans (by exact Keeps.K) hk (fun _ _ h => h)
   clear hk
   go_wp2_with fail
   go_ret
   exact ⟨by rw [HX.out]; rfl, HK.out⟩
  have HY : Hid (boxV ⟨k, n, s⟩ = .nilIface) := by show _ = _; rw [HX.out, if_neg k1, if_neg k2, if_neg k3, if_neg k4]
  have e1 : (k == 1) = false := by simpa using k1
  have e2 : (k == 2) = false := by simpa using k2
  have e3 : (k == 3) = false := by simpa using k3
  have e4 : (k == 4) = false := by simpa using k4
  clear k1 k2 k3 k4
  go_enter Tryz.func300, Tryz.ntmps300
  go_wp2_with fail
  refine (HC.out _ (HT.out.k (by exact Keeps.K)) hs).mono ?_
  rintro e w1 ⟨rfl, hk⟩
  obtain ⟨⟨c0, c1, c2⟩, _⟩ := blk3 ((hk.block w.heap.size (by simp) (by simp)).trans (heap_alloc_new w _))
  have HK : Hid (Keeps [] w w1) := Keeps.trans (by exact Keeps.K) hk (fun _ _ h => h)
  clear hk
  go_wp2_with fail
  go_ret
  exact ⟨by rw [HY.out]; rfl, HK.out⟩
theorem results_cell_tmp {P : Program} {fn : Func} {p q : Tmp} {ty : TypeId} (h : fn.results = #[.cell p ty, .tmp q]) (tmps : Array Value) (w : World) (g : Nat) (t : TypeId) (cs : Array Value) (fr : Nat × Nat) (d : TypeDesc) (u : Value)
 (hp : tmps.getD p undef = .pointer (some ⟨g, 0, none⟩)) (hq : tmps.getD q undef = u) (hg : w.heap[g]? = some (.cells cs t fr))
 (hu : P.underlying ty = some d) (hd : (match d with | .struct _ | .array _ _ => true | _ => false) = true) (hi : (P.info? ty).map (·.size) = some cs.size) :
 (results fn tmps).run P w = .ok (.tuple #[.agg cs, u]) w := by
 have hp' : tmps[p]?.getD undef = .pointer (some ⟨g, 0, none⟩) := by simpa using hp
 have hq' : tmps[q]?.getD undef = u := by simpa using hq
 simp [results, h, hp', hq', asAddr, run_loadVar_row w g t ty cs fr d hg hu hd hi]
def UnboxPost (v : ValD) (ok : Bool) (w : World) (e : Ending) (w' : World) : Prop := e = .returned (.tuple #[valV v, .bool ok]) ∧ Keeps [] w w'
theorem heap3 {w : World} {b : Nat} {x0 x1 x2 y0 y1 y2 : Value} {t : TypeId} (h : w.heap[b]? = some (.cells #[x0, x1, x2] t (0, 0))) :
 (((w.setCell ⟨b, 0, none⟩ y0).setCell ⟨b, 1, none⟩ y1).setCell ⟨b, 2, none⟩ y2).heap[b]? = some (.cells #[y0, y1, y2] t (0, 0)) :=
 heap_setCell_same _ b 2 _ _ y2 (heap_setCell_same _ b 1 _ _ y1 (heap_setCell_same w b 0 _ _ y0 h))
theorem new2 (w : World) (o o2 : Obj) (n : Nat) (h : n = 0) : ((w.alloc o).alloc o2).heap[w.heap.size]? = some o := by
 rw [Below.heap_alloc (w.alloc o) o2 w.heap.size (by simp)]
 exact heap_alloc_new w o
theorem new_2 (w : World) (o : Obj) (o2 : Obj) : ((w.alloc o).alloc o2).heap[w.heap.size + 1]? = some o2 := by
 have h1 := heap_alloc_new (w.alloc o) o2
 rwa [show (w.alloc o).heap.size = w.heap.size + 1 by simp] at h1
theorem vtext_is (s : ByteArray) (b : Bool) (hb : textOk s = b) (w : World) (hs : s.size ≤ 9223372036854775806) (hT : Tabs w) :
 Calls Tryz.prog 219 #[.string s] w fun e w' => e = .returned (.bool b) ∧ Keeps [] w w' := by
 rw [← hb]; exact vtext_any s w hs hT
theorem unbox_nil (w : World) : Calls Tryz.prog 255 #[.nilIface] w (UnboxPost val0 true w) := by
 go_enter Tryz.func255, Tryz.ntmps255
 go_wp2_with fail
 refine bodyPost_ret (v := .tuple #[.agg #[.int .i64 0, .int .i64 0, .string ⟨#[]⟩], .bool true]) (results_cell_tmp rfl _ _ w.heap.size 61 _ (0, 0) _ _ rfl rfl (heap_alloc_new _ _) Tryz.underlying61 rfl (by kernel_rfl)) rfl ⟨rfl, Keeps.K⟩
theorem unbox_int (n : Int) (w : World) : Calls Tryz.prog 255 #[.iface 2 (.int .i64 n)] w (UnboxPost ⟨1, n, ⟨#[]⟩⟩ true w) := by
 have ta0 : ∀ w, (Instr.typeAssert (.iface 2 (.int .i64 n)) 20 2 true).run Tryz.prog w = .ok (.tuple #[.int .i64 n, .bool true]) w := fun _ => by kernel_rfl
 go_enter Tryz.func255, Tryz.ntmps255
 go_wp2_with fail
 refine bodyPost_ret (v := .tuple #[.agg #[.int .i64 1, .int .i64 n, .string ⟨#[]⟩], .bool true]) (results_cell_tmp rfl _ _ w.heap.size 61 _ (0, 0) _ _ rfl rfl (heap_alloc_new _ _) Tryz.underlying61 rfl (by kernel_rfl)) rfl ⟨rfl, Keeps.K⟩
theorem unbox_true (w : World) : Calls Tryz.prog 255 #[.iface 4 (.bool true)] w (UnboxPost ⟨2, 1, ⟨#[]⟩⟩ true w) := by
 have ta0 : ∀ w, (Instr.typeAssert (.iface 4 (.bool true)) 20 2 true).run Tryz.prog w = .ok (.tuple #[.int .i64 0, .bool false]) w := fun _ => by kernel_rfl
 have ta1 : ∀ w, (Instr.typeAssert (.iface 4 (.bool true)) 20 4 true).run Tryz.prog w = .ok (.tuple #[.bool true, .bool true]) w := fun _ => by kernel_rfl
 go_enter Tryz.func255, Tryz.ntmps255
 go_wp2_with fail
 refine bodyPost_ret (v := .tuple #[.agg #[.int .i64 2, .int .i64 1, .string ⟨#[]⟩], .bool true]) (results_cell_tmp rfl _ _ w.heap.size 61 _ (0, 0) _ _ rfl rfl (new2 w _ _ 0 rfl) Tryz.underlying61 rfl (by kernel_rfl)) rfl ⟨rfl, Keeps.K⟩
theorem unbox_false (w : World) : Calls Tryz.prog 255 #[.iface 4 (.bool false)] w (UnboxPost ⟨2, 0, ⟨#[]⟩⟩ true w) := by
 have ta0 : ∀ w, (Instr.typeAssert (.iface 4 (.bool false)) 20 2 true).run Tryz.prog w = .ok (.tuple #[.int .i64 0, .bool false]) w := fun _ => by kernel_rfl
 have ta1 : ∀ w, (Instr.typeAssert (.iface 4 (.bool false)) 20 4 true).run Tryz.prog w = .ok (.tuple #[.bool false, .bool true]) w := fun _ => by kernel_rfl
 go_enter Tryz.func255, Tryz.ntmps255
 go_wp2_with fail
 refine bodyPost_ret (v := .tuple #[.agg #[.int .i64 2, .int .i64 0, .string ⟨#[]⟩], .bool true]) (results_cell_tmp rfl _ _ w.heap.size 61 _ (0, 0) _ _ rfl rfl (new2 w _ _ 0 rfl) Tryz.underlying61 rfl (by kernel_rfl)) rfl ⟨rfl, Keeps.K⟩
theorem unbox_text (s : ByteArray) (w : World) (hT : Tabs w) (hs : s.size ≤ 9223372036854775806) (ho : textOk s = true) : Calls Tryz.prog 255 #[.iface 9 (.string s)] w (UnboxPost ⟨3, 0, s⟩ true w) := by
 have HT := hid hT
 have HO := hid ho
 clear hT ho
 have ta0 : ∀ w, (Instr.typeAssert (.iface 9 (.string s)) 20 2 true).run Tryz.prog w = .ok (.tuple #[.int .i64 0, .bool false]) w := fun _ => by kernel_rfl
 have ta1 : ∀ w, (Instr.typeAssert (.iface 9 (.string s)) 20 4 true).run Tryz.prog w = .ok (.tuple #[.bool false, .bool false]) w := fun _ => by kernel_rfl
 have ta2 : ∀ w, (Instr.typeAssert (.iface 9 (.string s)) 20 9 true).run Tryz.prog w = .ok (.tuple #[.string s, .bool true]) w := fun _ => by kernel_rfl
 go_enter Tryz.func255, Tryz.ntmps255
 go_wp2_with fail
 refine (vtext_is s true HO.out _ hs (HT.out.k (by exact Keeps.K))).mono ?_
 rintro e w1 ⟨rfl, hk⟩
 have HK : Hid (Keeps [] w w1) := Keeps.trans (by exact Keeps.K) hk (fun _ _ h => h)
 have HBK := hid ((hk.block w.heap.size (by simp) (by simp)).trans (heap_alloc_new w _))
 obtain ⟨⟨c0, c1, c2⟩, f⟩ := blk3 HBK.out
 clear hk
 go_wp2_with fail
 refine bodyPost_ret (v := .tuple #[.agg #[.int .i64 3, .int .i64 0, .string s], .bool true]) (results_cell_tmp rfl _ _ w.heap.size 61 _ (0, 0) _ _ rfl rfl (heap3 HBK.out) Tryz.underlying61 rfl (by kernel_rfl)) rfl ⟨rfl, by have kk := HK.out; exact Keeps.K⟩
theorem unbox_val (n : Int) (s : ByteArray) (w : World) (hT : Tabs w) (hs : s.size ≤ 9223372036854775806) (ho : checkD ⟨4, n, s⟩ = true) : Calls Tryz.prog 255 #[.iface 61 (.agg #[.int .i64 4, .int .i64 n, .string s])] w (UnboxPost ⟨4, n, s⟩ true w) := by
 have HT := hid hT
 have HO := hid (vcheck_is ⟨4, n, s⟩ true ho)
 unfold valV at HO
 clear hT ho
 have ta0 : ∀ w, (Instr.typeAssert (.iface 61 (.agg #[.int .i64 4, .int .i64 n, .string s])) 20 2 true).run Tryz.prog w = .ok (.tuple #[.int .i64 0, .bool false]) w := fun _ => by kernel_rfl
 have ta1 : ∀ w, (Instr.typeAssert (.iface 61 (.agg #[.int .i64 4, .int .i64 n, .string s])) 20 4 true).run Tryz.prog w = .ok (.tuple #[.bool false, .bool false]) w := fun _ => by kernel_rfl
 have ta2 : ∀ w, (Instr.typeAssert (.iface 61 (.agg #[.int .i64 4, .int .i64 n, .string s])) 20 9 true).run Tryz.prog w = .ok (.tuple #[.string ⟨#[]⟩, .bool false]) w := fun _ => by kernel_rfl
 have ta3 : ∀ w, (Instr.typeAssert (.iface 61 (.agg #[.int .i64 4, .int .i64 n, .string s])) 20 61 true).run Tryz.prog w = .ok (.tuple #[.agg #[.int .i64 4, .int .i64 n, .string s], .bool true]) w := fun _ => by kernel_rfl
 go_enter Tryz.func255, Tryz.ntmps255
 go_wp2_with fail
 refine (HO.out _ (HT.out.k (by exact Keeps.K)) hs).mono ?_
 rintro e w1 ⟨rfl, hk⟩
 have HK : Hid (Keeps [] w w1) := Keeps.trans (by exact Keeps.K) hk (fun _ _ h => h)
 have HBK := hid ((hk.block w.heap.size (by simp; omega) (by simp)).trans ((((Keeps.refl [] _).alloc _).block w.heap.size (by simp) (by simp)).trans (heap_alloc_new w _)))
 obtain ⟨⟨c0, c1, c2⟩, f⟩ := blk3 HBK.out
 have HBK2 := hid ((hk.block (w.heap.size + 1) (by simp) (by simp)).trans (new_2 w _ _))
 obtain ⟨⟨d0, d1, d2⟩, g⟩ := blk3 HBK2.out
 clear hk
 go_wp2_with fail
 refine bodyPost_ret (v := .tuple #[.agg #[.int .i64 4, .int .i64 n, .string s], .bool true]) (results_cell_tmp rfl _ _ w.heap.size 61 _ (0, 0) _ _ rfl rfl (heap3 HBK.out) Tryz.underlying61 rfl (by kernel_rfl)) rfl ⟨rfl, by have kk := HK.out; exact Keeps.K⟩
theorem kind_yes (x : Value) (v : ValD) (w : World) (h : Calls Tryz.prog 255 #[x] w (UnboxPost v true w)) : Calls Tryz.prog 311 #[x] w fun e w' => e = .returned (.int .i64 v.kind) ∧ Keeps [] w w' := by
 have H := hid h
 clear h
 go_enter Tryz.func311, Tryz.ntmps311
 go_wp2_with fail
 refine H.out.mono ?_
 rintro e w1 ⟨rfl, hk⟩
 have HK := hid hk
 clear hk
 unfold valV
 go_wp2_with fail
 go_ret
 exact ⟨rfl, by have kk := HK.out; exact Keeps.K⟩
theorem wrong_idle (want : Int) (x : Value) (w : World) :
 CallsD Tryz.prog 315 #[.int .i64 want, x] .returning w fun e u' w' => e = .returned (.tuple #[]) ∧ u' = .returning ∧ w' = w := by
 refine callsD_of_wpS Tryz.func315 rfl fun c₀ cs hu => ?_
 apply wpS_seq
 apply wpS_region
 simp [wpOpsS, go_sem, recoverD, hu, Tryz.ntmps315, Exit.thenS]
 rw [show (#[.int .i64 want, x] ++ ((Array.replicate 12 undef).setIfInBounds 3 .nilIface).setIfInBounds 2 .nilIface : Array Value) = #[.int .i64 want, x, undef, undef, .nilIface, .nilIface, undef, undef, undef, undef, undef, undef, undef, undef] from rfl]
 refine wpS_of_wp ?_
 go_wp2_with fail
 refine ⟨rfl, .returning, by cases c₀; simp_all, _, ?_, rfl, rfl, rfl⟩
 simp [results, Tryz.results315, go_sem]
theorem int_good (n : Int) (w : World) : Calls Tryz.prog 302 #[.iface 2 (.int .i64 n)] w fun e w' => e = .returned (.int .i64 n) ∧ Keeps [] w w' := by
 have ta : ∀ w, (Instr.typeAssert (.iface 2 (.int .i64 n)) 20 2 false).run Tryz.prog w = .ok (.int .i64 n) w := fun _ => by kernel_rfl
 go_enter_defers Tryz.func302, Tryz.ntmps302
 go_wp2_with fail
 refine leaves_cons (f := 315) (args := #[.int .i64 1, .iface 2 (.int .i64 n)]) (by simp) (by simp [go_sem]) ?_
 refine (wrong_idle 1 _ _).mono ?_
 rintro e u' w'' ⟨rfl, rfl, hw⟩
 subst hw
 exact ⟨_, results_tmp rfl _ _ _, rfl, Keeps.refl [] _⟩
theorem bool_good (b : Bool) (w : World) : Calls Tryz.prog 312 #[.iface 4 (.bool b)] w fun e w' => e = .returned (.bool b) ∧ Keeps [] w w' := by
 have ta : ∀ w, (Instr.typeAssert (.iface 4 (.bool b)) 20 4 false).run Tryz.prog w = .ok (.bool b) w := fun _ => by kernel_rfl
 go_enter_defers Tryz.func312, Tryz.ntmps312
 go_wp2_with fail
 refine leaves_cons (f := 315) (args := #[.int .i64 2, .iface 4 (.bool b)]) (by simp) (by simp [go_sem]) ?_
 refine (wrong_idle 2 _ _).mono ?_
 rintro e u' w'' ⟨rfl, rfl, hw⟩
 subst hw
 exact ⟨_, results_tmp rfl _ _ _, rfl, Keeps.refl [] _⟩
end Go.Proofs.YtgjiahilbmeaeaaGreatDoor