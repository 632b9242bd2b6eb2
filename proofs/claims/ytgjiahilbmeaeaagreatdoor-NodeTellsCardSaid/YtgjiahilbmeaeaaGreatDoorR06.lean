/- Joined of NdD, WlA, WlB, WlC, NdB, PaA, PaB, NdC, NdG, NdH. -/
import Derived.Test.YtgjiahilbmeaeaaGreatDoorR02
import Derived.Test.YtgjiahilbmeaeaaGreatDoorQ01
import Derived.Test.YtgjiahilbmeaeaaGreatDoorQ06
import Derived.Outline
import Derived.Test.YtgjiahilbmeaeaaGreatDoorQ03
import Derived.Test.YtgjiahilbmeaeaaGreatDoorR04
import Derived.Test.YtgjiahilbmeaeaaGreatDoorR00
import Derived.Test.YtgjiahilbmeaeaaGreatDoorQ02
import Derived.Lib.ItoaNum
import Derived.Lib.ItoaLen
import Derived.Lib.SlicesCompact
set_option maxRecDepth 100000
set_option maxHeartbeats 8000000
set_option linter.unusedSimpArgs false
set_option linter.unusedVariables false
/- Sums, frames, names with numbers, disks, logs: plain. -/
namespace Go.Proofs.YtgjiahilbmeaeaaGreatDoor
open Go Go.RowKit
def le4 (s : Nat) : List UInt8 := [UInt8.ofNat (s % 256), UInt8.ofNat (s / 256 % 256), UInt8.ofNat (s / 65536 % 256), UInt8.ofNat (s / 16777216 % 256)]
def frameD (body : List UInt8) : List UInt8 := intL body.length ++ le4 (sumD (sumD 0 (intL body.length)) body) ++ body
def walB : List UInt8 := [119, 97, 108, 45]
def walTmp : List UInt8 := [119, 97, 108, 45, 116, 109, 112]
def walN (n : Nat) : List UInt8 := if n < 1 ∨ 99999999 < n then [] else nameP walB n 8
def snapB : List UInt8 := [115, 110, 97, 112, 45]
def recordP (kind : UInt8) (nums : List Int) : List UInt8 := kind :: nums.flatMap intL
theorem wpList_appB {ops : Array Oper} {rest : List Oper} {o : Oper} {a : Act} {Q : Exit → Act → World → Prop} (w : World) (hgd : o.guard = none) (s x : Operand)
 (ho : o.op = .call { callee := .builtin .append, args := #[s, x], argTypes := #[27, 27] })
 (base : Nat) (v : Value) (hs : a.eval s = v) (bs : List UInt8) (n : Nat) (hn : bs.length = n) (hown : w.ownsRow base 5 1 v n (u8s bs)) (src : Value) (hx : a.eval x = src) (cs : List UInt8) (m : Nat) (hm : cs.length = m) (hr : Reads w 1 src m (u8s cs)) (k : Nat) (hk : n + m = k) (hbytes : k ≤ 140737488355328) (hbase : base ≤ w.heap.size)
 (h : ∀ a' c' w', Hid (w'.ownsRow base 5 1 (.slice a' k c') k (u8s (bs ++ cs))) → Hid (∀ w0 : World, w0.heap.size ≤ base → Keeps [] w0 w → Keeps [] w0 w') → wpList Tryz.prog ops Q rest (a.put o.dst (.slice a' k c')) w') : wpList Tryz.prog ops Q (o :: rest) a w := by
 obtain ⟨i, hi, hz, hsize, hby⟩ := info_parts Tryz.infoU8
 subst hn hm hk
 refine wpList_append_reads w hgd s x 27 ho base 5 i (.int .u8 0) 1 1 Tryz.underlying27 hi hz hsize hby rfl (by decide) v hs bs.length (u8s bs) hown _ hx cs.length (u8s cs) hr (u8s_one _) (by omega) (le_maxLen hbytes) hbase fun a' c' w' g1 g2 _ _ => ?_
 refine h a' c' w' (by show w'.ownsRow _ _ _ _ _ _; rw [u8s_snoc]; exact g1.out) fun w0 hw0 k0 => ?_
 exact k0.trans (Keeps.ofGrown (F := ownB v) g2.out (fun k hk => by rw [mem_ownB]; exact hk)) (fun k hk hm => by have := (ownB_ge hown k hm).1; omega)
theorem frPut_any (body : List UInt8) (a : Option Addr) (c : Nat) (w : World) (hr : Reads w 1 (.slice a body.length c) body.length (u8s body)) (h1 : 1 ≤ body.length) (h2 : body.length ≤ 1048576) :
 Calls Tryz.prog 95 #[.slice none 0 0, .slice a body.length c] w fun e w' => ∃ a' q, e = .returned (.tuple #[.slice a' (frameD body).length q, .int .i64 0]) ∧ w'.ownsRow w.heap.size 5 1 (.slice a' (frameD body).length q) (frameD body).length (u8s (frameD body)) ∧ Keeps [] w w' := by
 obtain ⟨ip, hi, hz0, hz1, hz2⟩ := info_parts Tryz.infoU8
 have HR := hid hr
 have hI : I64 (body.length : Int) := ⟨by omega, by omega⟩
 have hil := intL_len hI
 have HIL := hid hil
 have i1 : ((body.length : Int) < 1) = False := eq_false (by omega)
 have i2 : (1048576 < (body.length : Int)) = False := eq_false (by omega)
 have HP := hid (putInt_any none [] 0 (body.length : Int) hI w ⟨rfl, .inl ⟨rfl, _, _, rfl⟩⟩ (by simp))
 have H1 := hid h1
 have H2 := hid h2
 clear hr hI hil h1 h2
 go_enter Tryz.func95, Tryz.ntmps95
 go_wp2_with fail
 refine HP.out.mono ?_
 rintro e w1 ⟨a1, q1, rfl, ho, hk⟩
 obtain ⟨hd, hhd⟩ : ∃ hd, intL (body.length : Int) = hd := ⟨_, rfl⟩
 have hhd2 : ([] : List UInt8) ++ Lib.uvarint (Lib.zigzag (body.length : Int)) = hd := by rw [← hhd]; rfl
 rw [hhd2] at ho ⊢
 rw [hhd] at HIL
 have HHD := hid hhd
 have HO := hid ho
 have HK := hid hk
 clear ho hk hhd hhd2
 go_wp2_with fail
 refine (suOf_any a1 q1 hd w1 (Reads.ofOwn HO.out)).mono ?_
 rintro e w2 ⟨rfl, hk2⟩
 have hs0 : sumD 0 hd < 4294967296 := by
  unfold sumD
  exact Nat.xor_lt_two_pow (n := 32) (by decide) (fold_lt _ (by decide))
 have HK2 : Hid (Keeps [] w w2) := HK.out.trans hk2 (fun _ _ h => h)
 have HR2 : Hid (Reads w2 1 (.slice a body.length c) body.length (u8s body)) := HR.out.keeps HK2.out (fun _ _ h => by cases h)
 have HO2 := hid (ownsRow_keeps HO.out hk2 (fun _ _ h => by cases h))
 clear hk2
 go_wp2_with fail
 refine (suMore_any (sumD 0 hd) hs0 a c body w2 HR2.out).mono ?_
 rintro e w3 ⟨rfl, hk3⟩
 have HK3 : Hid (Keeps [] w w3) := HK2.out.trans hk3 (fun _ _ h => h)
 have HR3 : Hid (Reads w3 1 (.slice a body.length c) body.length (u8s body)) := HR2.out.keeps hk3 (fun _ _ h => by cases h)
 have HO3 := hid (ownsRow_keeps HO2.out hk3 (fun _ _ h => by cases h))
 obtain ⟨s, hs⟩ : ∃ s, sumD (sumD 0 hd) body = s := ⟨_, rfl⟩
 have hsl : s < 4294967296 := by
  rw [← hs]
  unfold sumD
  exact Nat.xor_lt_two_pow (n := 32) (by decide) (fold_lt _ (Nat.xor_lt_two_pow (n := 32) (by decide) (by have := hs0; unfold sumD at this; exact this)))
 rw [hs]
 have HS := hid hs
 clear hs hk3 hs0
 have hh := HIL.out
 have hbl := H2.out
 have HHL : Hid (hd.length ≤ 10) := hh
 have c1 : IntKind.u8.wrap (s : Int) = ((s % 256 : Nat) : Int) := by simp [IntKind.wrap, IntKind.signed, IntKind.bits]
 have c2 : IntKind.u8.wrap ((s : Int) / 256) = ((s / 256 % 256 : Nat) : Int) := by simp [IntKind.wrap, IntKind.signed, IntKind.bits]
 have c3 : IntKind.u8.wrap ((s : Int) / 65536) = ((s / 65536 % 256 : Nat) : Int) := by simp [IntKind.wrap, IntKind.signed, IntKind.bits]
 have c4 : IntKind.u8.wrap ((s : Int) / 16777216) = ((s / 16777216 % 256 : Nat) : Int) := by simp [IntKind.wrap, IntKind.signed, IntKind.bits]
 have HLE : Hid ([Value.int .u8 ((s : Int) % 256), .int .u8 ((s : Int) / 256 % 256), .int .u8 ((s : Int) / 65536 % 256), .int .u8 ((s : Int) / 16777216 % 256)] = u8s (le4 s)) := by
  show _ = _
  unfold le4 u8s
  simp
 have HFD : Hid (frameD body = hd ++ le4 s ++ body) := by show _ = _; unfold frameD; rw [HHD.out, HS.out]
 have HFL : Hid ((frameD body).length = hd.length + 4 + body.length) := by show _ = _; rw [HFD.out]; simp [le4]; omega
 have HBL := hid hbl
 clear hh hbl
 go_wp2_with (first | (show wpList _ _ _ (⟨some 31, _, _, _, _, _⟩ :: _) _ _; go_must (refine wpList_appB _ (by rfl) (.tmp 29) (.tmp 30) (by rfl) w.heap.size (.slice none 0 0) (by rfl) [] 0 rfl (World.ownsRow_nil _ _ _ _) _ (by rfl) hd hd.length rfl (Reads.ofOwn HO3.out) hd.length (Nat.zero_add _) (by have := HHL.out; omega) HK3.out.size ?_); intro a4 q4 w4 ho4 hk4; have HK4 : Hid (Keeps [] w w4) := hk4.out w (Nat.le_refl _) HK3.out; have HR4 : Hid (Reads w4 1 (.slice a body.length c) body.length (u8s body)) := HR.out.keeps HK4.out (fun _ _ h => by cases h); clear hk4) | (show wpList _ _ _ (⟨some 45, _, _, _, _, _⟩ :: _) _ _; go_must (refine wpList_appB _ (by rfl) (.tmp 32) (.tmp 44) (by rfl) w.heap.size (.slice a4 hd.length q4) (by rfl) hd hd.length rfl ((by simpa using ho4.out : w4.ownsRow w.heap.size 5 1 (.slice a4 hd.length q4) hd.length (u8s hd)).alloc _) _ (by rfl) (le4 s) 4 rfl (by rw [← HLE.out]; exact Reads.ofBlock (n := 4) (size := 1) (heap_alloc_new w4 _) rfl (le_maxLen (by decide))) (hd.length + 4) rfl (by have := HHL.out; omega) (by have := HK4.out.size; simp; omega) ?_); intro a5 q5 w5 ho5 hk5; have HK5 : Hid (Keeps [] w w5) := hk5.out w (Nat.le_refl _) (HK4.out.alloc _); have HR5 : Hid (Reads w5 1 (.slice a body.length c) body.length (u8s body)) := HR.out.keeps HK5.out (fun _ _ h => by cases h); clear hk5) | (show wpList _ _ _ (⟨some 48, _, _, _, _, _⟩ :: _) _ _; go_must (refine wpList_appB _ (by rfl) (.tmp 46) (.tmp 47) (by rfl) w.heap.size (.slice a5 (hd.length + 4) q5) (by rfl) (hd ++ le4 s) (hd.length + 4) (by simp [le4]) ho5.out _ (by rfl) body body.length rfl HR5.out (hd.length + 4 + body.length) rfl (by have := HHL.out; have := HBL.out; omega) HK5.out.size ?_); intro a6 q6 w6 ho6 hk6; have HK6 : Hid (Keeps [] w w6) := hk6.out w (Nat.le_refl _) HK5.out; clear hk6))
 refine bodyPost_ret (v := .tuple #[.slice a6 (hd.length + 4 + body.length) q6, .int .i64 0]) (by simp [results, Tryz.results95, go_sem]) rfl ?_
 refine ⟨a6, q6, by rw [HFL.out], ?_, HK6.out⟩
 rw [HFL.out, HFD.out]
 exact ho6.out
theorem str_append (a b : List UInt8) : (⟨a.toArray⟩ : ByteArray) ++ str b = str (a ++ b) := by
 unfold str
 apply ByteArray.ext
 simp
theorem wlName_any (n : Nat) (w : World) (hn : n ≤ 1099511627776) :
 Calls Tryz.prog 90 #[.int .i64 (n : Int)] w fun e w' => e = .returned (.string (str (walN n))) ∧ Keeps [] w w' := by
 have HP := hid (plName_any ⟨#[119, 97, 108, 45]⟩ n 8 w (by decide) hn (by decide))
 by_cases h1 : n < 1
 ·have q1 : (n : Int) < 1 := by omega
  have HO : Hid (walN n = []) := by show _ = _; unfold walN; rw [if_pos (.inl h1)]
  clear h1
  go_enter Tryz.func90, Tryz.ntmps90
  go_wp2_with fail
  go_ret
  exact ⟨by rw [HO.out]; rfl, by exact Keeps.K⟩
 ·have q1 : ((n : Int) < 1) = False := eq_false (by omega)
  by_cases h2 : 99999999 < n
  ·have q2 : 99999999 < (n : Int) := by omega
   have HO : Hid (walN n = []) := by show _ = _; unfold walN; rw [if_pos (.inr h2)]
   clear h1 h2
   go_enter Tryz.func90, Tryz.ntmps90
   go_wp2_with fail
   go_ret
   exact ⟨by rw [HO.out]; rfl, by exact Keeps.K⟩
  ·have q2 : (99999999 < (n : Int)) = False := eq_false (by omega)
   have HO : Hid (walN n = nameP walB n 8) := by show _ = _; unfold walN; rw [if_neg (by omega)]
   clear h1 h2
   go_enter Tryz.func90, Tryz.ntmps90
   go_wp2_with fail
   refine HP.out.mono ?_
   rintro e w1 ⟨rfl, hk⟩
   have HK := hid hk
   clear hk
   go_wp2_with fail
   go_ret
   refine ⟨?_, HK.out⟩
   rw [HO.out]
   unfold nameP walB
   rw [← str_append]
   rfl
def inW (v most : Int) : Bool := decide (0 ≤ v ∧ v ≤ most)
theorem wlIn_any (v m : Int) (w : World) : Calls Tryz.prog 110 #[.int .i64 v, .int .i64 m] w fun e w' => e = .returned (.bool (inW v m)) ∧ Keeps [] w w' := by
 by_cases h1 : 0 ≤ v
 ·by_cases h2 : v ≤ m
  ·have HO : Hid (inW v m = true) := by show _ = _; unfold inW; exact decide_eq_true ⟨h1, h2⟩
   go_enter Tryz.func110, Tryz.ntmps110
   go_wp2_with fail
   go_ret
   exact ⟨by rw [HO.out]; rfl, by exact Keeps.K⟩
  ·have HO : Hid (inW v m = false) := by show _ = _; unfold inW; exact decide_eq_false (fun h => h2 h.2)
   have q : decide (v ≤ m) = false := decide_eq_false h2
   clear h2
   go_enter Tryz.func110, Tryz.ntmps110
   go_wp2_with fail
   go_ret
   exact ⟨by rw [HO.out]; rfl, by exact Keeps.K⟩
 ·have HO : Hid (inW v m = false) := by show _ = _; unfold inW; exact decide_eq_false (fun h => h1 h.1)
  have q : decide (0 ≤ v) = false := decide_eq_false h1
  clear h1
  go_enter Tryz.func110, Tryz.ntmps110
  go_wp2_with fail
  go_ret
  exact ⟨by rw [HO.out]; rfl, by exact Keeps.K⟩
theorem wpList_appK {ops : Array Oper} {rest : List Oper} {o : Oper} {a : Act} {Q : Exit → Act → World → Prop} (w : World) (hgd : o.guard = none) (s x : Operand)
 (ho : o.op = .call { callee := .builtin .append, args := #[s, x], argTypes := #[27, 27] })
 (base : Nat) (v : Value) (hs : a.eval s = v) (bs : List UInt8) (n : Nat) (hn : bs.length = n) (hown : w.ownsRow base 5 1 v n (u8s bs)) (src : Value) (hx : a.eval x = src) (cs : List UInt8) (m : Nat) (hm : cs.length = m) (hr : Reads w 1 src m (u8s cs)) (k : Nat) (hk : n + m = k) (hbytes : k ≤ 140737488355328) (hbase : base ≤ w.heap.size)
 (h : ∀ a' c' w', Hid (w'.ownsRow base 5 1 (.slice a' k c') k (u8s (bs ++ cs))) → Hid (Keeps (ownB v) w w') → Hid (∀ b ∈ ownB (.slice a' k c'), b ∈ ownB v ∨ w.heap.size ≤ b) → wpList Tryz.prog ops Q rest (a.put o.dst (.slice a' k c')) w') : wpList Tryz.prog ops Q (o :: rest) a w := by
 obtain ⟨i, hi, hz, hsize, hby⟩ := info_parts Tryz.infoU8
 subst hn hm hk
 refine wpList_append_reads w hgd s x 27 ho base 5 i (.int .u8 0) 1 1 Tryz.underlying27 hi hz hsize hby rfl (by decide) v hs bs.length (u8s bs) hown _ hx cs.length (u8s cs) hr (u8s_one _) (by omega) (le_maxLen hbytes) hbase fun a' c' w' g1 g2 g3 _ => ?_
 refine h a' c' w' (by show w'.ownsRow _ _ _ _ _ _; rw [u8s_snoc]; exact g1.out) (Keeps.ofGrown (F := ownB v) g2.out (fun k hk => by rw [mem_ownB]; exact hk)) (fun b hb => ?_)
 rw [mem_ownB] at hb ⊢
 rcases g3.out with g | g
 ·exact .inl (by rw [← g]; exact hb)
 ·rw [g] at hb
  simp at hb
  exact .inr (by omega)
def NewB (w : World) (xs : List UInt8) (e : Ending) (w' : World) : Prop := ∃ a q, e = .returned (.slice a xs.length q) ∧ w'.ownsRow w.heap.size 5 1 (.slice a xs.length q) xs.length (u8s xs) ∧ Keeps [] w w'
def i64s (l : List Int) : List Value := l.map (Value.int .i64)
theorem recordP_len (l : List Int) (h : ∀ x ∈ l, I64 x) : (l.flatMap intL).length ≤ 10 * l.length := by
 induction l with
 | nil => simp
 | cons x r ih =>
   have h1 := intL_len (h x (by simp))
   have h2 := ih (fun y hy => h y (by simp [hy]))
   simp only [List.flatMap_cons, List.length_append, List.length_cons]
   omega
theorem wlRecord_any (k : UInt8) (l : List Int) (a : Option Addr) (c : Nat) (w : World) (hr : Reads w 1 (.slice a l.length c) l.length (i64s l)) (hl : ∀ x ∈ l, I64 x) (hn : l.length ≤ 1000) :
 Calls Tryz.prog 96 #[.int .u8 (k.toNat : Int), .slice a l.length c] w (NewB w (recordP k l)) := by
 have HR := hid hr
 have HL := hid hl
 have HN := hid hn
 clear hr hl hn
 go_enter Tryz.func96, Tryz.ntmps96
 go_wp2_with fail
 have hblk := heap_alloc_new w (.cells #[.int .u8 (k.toNat : Int)] 5)
 have HB : Hid ((w.alloc (.cells #[.int .u8 (k.toNat : Int)] 5)).ownsRow w.heap.size 5 1 (.slice (some ⟨w.heap.size, 0, none⟩) 1 1) 1 (u8s [k])) :=
  ⟨by simp [u8s], .inr ⟨w.heap.size, 1, _, rfl, Nat.le_refl _, hblk, Nat.le_refl _, le_maxLen (by decide), rfl, rfl⟩⟩
 clear hblk
 go_loopw [5, 12] (fun bv iv wr => ∃ (j : Nat) (a5 : Option Addr) (q5 n5 : Nat), iv = .int .i64 (j : Int) ∧ j ≤ l.length ∧ bv = .slice a5 n5 q5 ∧ Hid (n5 = (k :: (l.take j).flatMap intL).length ∧ wr.ownsRow w.heap.size 5 1 (.slice a5 n5 q5) n5 (u8s (k :: (l.take j).flatMap intL)) ∧ Keeps [] w wr)) (fun _ iv _ => l.length - (intOf iv).toNat)
 case atStart => exact ⟨0, _, _, 1, rfl, Nat.zero_le _, rfl, rfl, HB.out, by exact Keeps.K⟩
 case round =>
  obtain ⟨j, a5, q5, n5, rfl, hj, rfl, hW⟩ := hrel
  have HW := hid hW.out
  clear hW
  have j0 : (0 : Int) ≤ (j : Int) := Int.natCast_nonneg _
  have hnn := HN.out
  by_cases hlt : j < l.length
  ·have i1 : (j : Int) < (l.length : Int) := by omega
   have hw1 : IntKind.i64.wrap ((j : Int) + 1) = (j : Int) + 1 := by rw [IntKind.wrap_i64]; omega
   obtain ⟨x, hx⟩ : ∃ x, l[j] = x := ⟨_, rfl⟩
   have hx2 : l[j]? = some x := by rw [List.getElem?_eq_getElem hlt, hx]
   obtain ⟨g, off, rfl, hcell⟩ : ∃ g off, a = some ⟨g, off, none⟩ ∧ wr.cell? ⟨g, off + j, none⟩ = some (.int .i64 x) := by
    rcases (HR.out.keeps HW.out.2.2 (fun _ _ h => by cases h)).2 with ⟨h0, _⟩ | ⟨hp, g, off, c', e, hnc, hcm, hgl, hx'⟩
    ·omega
    ·simp only [Value.slice.injEq] at e
     exact ⟨g, off, e.1, hx' j _ (by unfold i64s; rw [List.getElem?_map, hx2]; rfl)⟩
   have hI := HL.out x (by rw [← hx]; exact List.getElem_mem _)
   have HX2 := hid hx2
   have hlen := recordP_len (l.take j) (fun y hy => HL.out y (List.mem_of_mem_take hy))
   have HLT := hid hlt
   obtain ⟨bs, hbs⟩ : ∃ bs, k :: (l.take j).flatMap intL = bs := ⟨_, rfl⟩
   rw [hbs] at HW
   have hbl : bs.length ≤ 10001 := by rw [← hbs, List.length_cons]; have : (l.take j).length ≤ l.length := List.length_take_le' _ _; omega
   have hne := HW.out.1
   have HP := hid (putInt_any a5 bs q5 x hI wr (by rw [← hne]; exact Reads.ofOwn HW.out.2.1) (by omega))
   rw [← hne] at HP
   have HST : Hid (k :: (l.take (j + 1)).flatMap intL = bs ++ Lib.uvarint (Lib.zigzag x)) := by
    show _ = _
    rw [List.take_add_one, hx2, Option.toList_some, List.flatMap_append, ← List.cons_append, hbs]
    simp [intL]
   clear hx hx2 hI hlen hlt hbs hbl hne
   go_wp2_with fail
   refine HP.out.mono ?_
   rintro e w2 ⟨a6, q6, rfl, ho, hk⟩
   have HO := hid ho
   have HK : Hid (Keeps [] w w2) := HW.out.2.2.trans hk (fun _ _ h => h)
   have HBASE := hid (ownsRow_base ho HW.out.2.2.size)
   clear ho hk
   go_wp2_with fail
   have := HLT.out
   exact ⟨⟨j + 1, a6, q6, _, rfl, by omega, rfl, by rw [HST.out, List.length_append], by rw [HST.out]; have hh := HBASE.out; rw [List.length_append] at hh; exact hh, HK.out⟩, by simp [intOf]; omega⟩
  ·have i1 : (l.length : Int) ≤ (j : Int) := by omega
   obtain rfl : j = l.length := by omega
   have HW2 := hid HW.out
   go_wp2_with fail
   go_ret
   obtain ⟨h1, h2, h3⟩ := HW.out
   rw [List.take_length] at h1 h2
   subst h1
   exact ⟨a5, q5, rfl, h2, h3⟩
def tokAt (l : List TokD) (i : Nat) : TokD := l.getD i ⟨0, [], 0, 0⟩
def takesP (l : List TokD) (i : Nat) (signs : List (List UInt8)) : List UInt8 × Nat :=
 if (tokAt l i).kind = 4 ∧ signs.contains (tokAt l i).s = true then ((tokAt l i).s, i + 1) else ([], i)
def opS (s : List UInt8) : Int :=
 if s == [43] then 7 else if s == [45] then 8 else if s == [42] then 9 else if s == [47] then 10 else if s == [37] then 11
 else if s == [61] then 12 else if s == [33, 61] then 13 else if s == [60] ∨ s == [62] then 14 else if s == [60, 61] ∨ s == [62, 61] then 15
 else if s == [38] then 16 else 17
def levelS (n : Nat) : List (List UInt8) :=
 if n = 0 then [[124]] else if n = 1 then [[38]] else if n = 2 then [[61], [33, 61], [60], [60, 61], [62], [62, 61]] else if n = 3 then [[43], [45]] else [[42], [47], [37]]
def calledW (s : List UInt8) : Int × Nat :=
 if s == [105, 102] then (18, 3) else if s == [108, 101, 110] then (19, 1) else if s == [99, 97, 116] then (20, 2) else if s == [99, 117, 116] then (21, 2) else if s == [117, 112] then (23, 1) else (22, 1)
abbrev PRes := Option (Except Nat (ExprD × Nat))
abbrev PKids := Option (Except Nat (List ExprD × Nat))
def emptyS : ByteArray := ⟨#[]⟩
def mustP (l : List TokD) (i : Nat) (sg : List UInt8) : Except Nat Nat :=
 if (takesP l i [sg]).1 = [] then .error (tokAt l i).at_ else .ok (takesP l i [sg]).2
mutual
def twoP : Nat → Nat → List TokD → Nat → PRes
 | 0, _, _, _ => none
 | f + 1, n, l, i =>
   if 4 < n then oneP f l i
   else match twoP f (n + 1) l i with
    | none => none
    | some (.error x) => some (.error x)
    | some (.ok (e, j)) => moreP f n l e j
def moreP : Nat → Nat → List TokD → ExprD → Nat → PRes
 | 0, _, _, _, _ => none
 | f + 1, n, l, e, i =>
   if (takesP l i (levelS n)).1 = [] then some (.ok (e, i))
   else match twoP f (n + 1) l (takesP l i (levelS n)).2 with
    | none => none
    | some (.error x) => some (.error x)
    | some (.ok (k, j)) =>
      let sg := (takesP l i (levelS n)).1
      let e' : ExprD := .mk (opS sg) 0 emptyS (if sg == [62] ∨ sg == [62, 61] then [k, e] else [e, k])
      if n = 2 then some (.ok (e', j)) else moreP f n l e' j
def oneP : Nat → List TokD → Nat → PRes
 | 0, _, _ => none
 | f + 1, l, i =>
   let sg := (takesP l i [[45], [33], [40]]).1
   let j := (takesP l i [[45], [33], [40]]).2
   if sg == [45] then (match oneP f l j with
    | none => none
    | some (.error x) => some (.error x)
    | some (.ok (k, j2)) => some (.ok (.mk 5 0 emptyS [k], j2)))
   else if sg == [33] then (match oneP f l j with
    | none => none
    | some (.error x) => some (.error x)
    | some (.ok (k, j2)) => some (.ok (.mk 6 0 emptyS [k], j2)))
   else if sg == [40] then (match twoP f 0 l j with
    | none => none
    | some (.error x) => some (.error x)
    | some (.ok (k, j2)) => (match mustP l j2 [41] with
      | .error x => some (.error x)
      | .ok j3 => some (.ok (k, j3))))
   else if (tokAt l i).kind = 1 then some (.ok (.mk 1 (tokAt l i).n emptyS [], i + 1))
   else if (tokAt l i).kind = 2 then some (.ok (.mk 2 0 (str (tokAt l i).s) [], i + 1))
   else if (tokAt l i).kind = 3 then namedP f l (tokAt l i).s (i + 1)
   else some (.error (tokAt l i).at_)
def namedP : Nat → List TokD → List UInt8 → Nat → PRes
 | 0, _, _, _ => none
 | f + 1, l, s, i =>
   if wordD (str s) = false then some (.ok (.mk 4 0 (str s) [], i))
   else if s == [116, 114, 117, 101] then some (.ok (.mk 3 1 emptyS [], i))
   else if s == [102, 97, 108, 115, 101] then some (.ok (.mk 3 0 emptyS [], i))
   else match mustP l i [40] with
    | .error x => some (.error x)
    | .ok j => match kidsP f l (calledW s).1 (calledW s).2 true j with
      | none => none
      | some (.error x) => some (.error x)
      | some (.ok (ks, j2)) => match mustP l j2 [41] with
        | .error x => some (.error x)
        | .ok j3 => some (.ok (.mk (calledW s).1 0 emptyS ks, j3))
def kidsP : Nat → List TokD → Int → Nat → Bool → Nat → PKids
 | 0, _, _, _, _, _ => none
 | f + 1, l, op, n, first, i =>
   match n with
   | 0 => some (.ok ([], i))
   | n' + 1 =>
     match (if first then .ok i else mustP l i [44]) with
     | .error x => some (.error x)
     | .ok j =>
       if op = 22 ∧ ((tokAt l j).kind ≠ 3 ∨ wordD (str (tokAt l j).s) = true) then some (.error (tokAt l j).at_)
       else match (if op = 22 then oneP f l j else twoP f 0 l j) with
        | none => none
        | some (.error x) => some (.error x)
        | some (.ok (k, j2)) => match kidsP f l op n' false j2 with
          | none => none
          | some (.error x) => some (.error x)
          | some (.ok (ks, j3)) => some (.ok (k :: ks, j3))
end
def readP (f : Nat) (l : List TokD) : PRes :=
 match twoP f 0 l 0 with
 | none => none
 | some (.error x) => some (.error x)
 | some (.ok (e, j)) => if (tokAt l j).kind ≠ 0 then some (.error (tokAt l j).at_) else some (.ok (e, j))
theorem op23 {o : Int} (h0 : 1 ≤ o) (h1 : o ≤ 23) : o = 1 ∨ o = 2 ∨ o = 3 ∨ o = 4 ∨ o = 5 ∨ o = 6 ∨ o = 7 ∨ o = 8 ∨ o = 9 ∨ o = 10 ∨ o = 11 ∨ o = 12 ∨ o = 13 ∨ o = 14 ∨ o = 15 ∨ o = 16 ∨ o = 17 ∨ o = 18 ∨ o = 19 ∨ o = 20 ∨ o = 21 ∨ o = 22 ∨ o = 23 := by omega
theorem kidsN_range {o : Int} (h : 0 ≤ kidsN o) : 1 ≤ o ∧ o ≤ 23 := by
 unfold kidsN at h
 split at h
 ·omega
 ·split at h
  ·omega
  ·split at h
   ·omega
   ·split at h
    ·omega
    ·omega
theorem paKids_is (o : Int) (w : World) (h0 : 1 ≤ o) (h1 : o ≤ 23) : Calls Tryz.prog 268 #[.int .i64 o] w fun e w' => e = .returned (.int .i64 (kidsN o)) ∧ Keeps [] w w' := by
 have h := op23 h0 h1
 clear h0 h1
 rcases h with rfl | rfl | rfl | rfl | rfl | rfl | rfl | rfl | rfl | rfl | rfl | rfl | rfl | rfl | rfl | rfl | rfl | rfl | rfl | rfl | rfl | rfl | rfl
 all_goals
  go_enter Tryz.func268, Tryz.ntmps268
  go_wp2_with fail
  go_ret
  exact ⟨rfl, by exact Keeps.K⟩
theorem aloneD_parts {o n : Int} {s : ByteArray} {ks : List ExprD} (h : aloneD (.mk o n s ks) = true) : (ks.length : Int) = kidsN o ∧ (1 ≤ o ∧ o ≤ 23) ∧
 ((o = 1 ∧ 0 ≤ n ∧ s.toList = []) ∨ (o = 2 ∧ n = 0 ∧ checkD ⟨3, 0, s⟩ = true) ∨ (o = 3 ∧ (n = 0 ∨ n = 1) ∧ s.toList = []) ∨ (o = 4 ∧ n = 0 ∧ nameD s = true) ∨
   ((5 ≤ o ∧ o ≤ 23) ∧ n = 0 ∧ s.toList = [] ∧ (o = 22 → (ks.getD 0 noExpr).op = 4))) := by
 have h : (decide ((ks.length : Int) = kidsN o) &&
  (if o = 1 then decide (0 ≤ n) && emptyB s
   else if o = 2 then decide (n = 0) && checkD ⟨3, 0, s⟩
   else if o = 3 then (decide (n = 0) || decide (n = 1)) && emptyB s
   else if o = 4 then decide (n = 0) && nameD s
   else decide (n = 0) && (emptyB s && (decide (o ≠ 22) || decide ((ks.getD 0 noExpr).op = 4))))) = true := h
 rw [Bool.and_eq_true] at h
 obtain ⟨h1, h2⟩ := h
 have h1 := of_decide_eq_true h1
 have hr := kidsN_range (o := o) (by omega)
 refine ⟨h1, hr, ?_⟩
 split at h2
 ·rename_i e
  subst e
  simp only [Bool.and_eq_true, decide_eq_true_eq] at h2
  exact .inl ⟨rfl, h2.1, by simpa [emptyB] using h2.2⟩
 ·split at h2
  ·rename_i e
   subst e
   simp only [Bool.and_eq_true, decide_eq_true_eq] at h2
   exact .inr (.inl ⟨rfl, h2.1, h2.2⟩)
  ·split at h2
   ·rename_i e
    subst e
    simp only [Bool.and_eq_true, Bool.or_eq_true, decide_eq_true_eq] at h2
    exact .inr (.inr (.inl ⟨rfl, h2.1, by simpa [emptyB] using h2.2⟩))
   ·split at h2
    ·rename_i e
     subst e
     simp only [Bool.and_eq_true, decide_eq_true_eq] at h2
     exact .inr (.inr (.inr (.inl ⟨rfl, h2.1, h2.2⟩)))
    ·simp only [Bool.and_eq_true, Bool.or_eq_true, decide_eq_true_eq] at h2
     refine .inr (.inr (.inr (.inr ⟨by omega, h2.1, by simpa [emptyB] using h2.2.1, fun e => ?_⟩)))
     rcases h2.2.2 with h | h
     ·exact absurd e h
     ·simpa [ExprD.op] using h
theorem paAlone_ok (o n : Int) (s : ByteArray) (ks : List ExprD) (a : Option Addr) (c : Nat) (P : Nat → Prop) (w : World) (hT : Tabs w) (hE : Errs w) (hk : ListAt exprL w P (.slice a ks.length c) ks) (h : aloneD (.mk o n s ks) = true) :
 Calls Tryz.prog 235 #[.agg #[.int .i64 o, .int .i64 n, .string s, .slice a ks.length c]] w fun e w' => e = .returned (.bool true) ∧ Keeps [] w w' := by
 obtain ⟨h1, h2, h3⟩ := aloneD_parts h
 have HK := hid hk
 have HT := hid hT
 have HE := hid hE
 have HC : Hid (∀ wx, Calls Tryz.prog 268 #[.int .i64 o] wx fun e w' => e = .returned (.int .i64 (ks.length : Int)) ∧ Keeps [] wx w') := fun wx => by
  rw [h1]
  exact paKids_is o wx h2.1 h2.2
 have HL := hid h1
 clear h h1 hk hT hE
 go_enter Tryz.func235, Tryz.ntmps235
 go_wp2_with fail
 refine Plan.wp_region_plan (fun wx => wx.cell? ⟨w.heap.size, 0, none⟩ = some (.int .i64 o) ∧ wx.cell? ⟨w.heap.size, 3, none⟩ = some (.slice a ks.length c)) 7 [(true, 0), (true, 1), (true, 2), (true, 3), (true, 4), (false, 5), (true, 6)] (by kernel_rfl) (by as_aux_lemma => kernel_rfl) (by kernel_rfl) (fun _ _ _ _ _ h => h) ?_ (fun hS => ?_)
 (·go_simp)
 simp only [Plan.pick, List.append_eq, List.cons_append, List.nil_append, Plan.g1, Plan.g2, Option.getD_some, List.drop_succ_cons, List.drop_zero]
 iterate 5 (first | refine Plan.tA ?_ | refine Plan.tY ?_ | refine Plan.pN ?_ | refine Plan.pU ?_ | fail)
 refine Plan.step ?_
 go_wp2_with fail
 refine (HC.out _).mono ?_
 rintro e w1 ⟨rfl, hk1⟩
 have x0 : w1.cell? ⟨w.heap.size, 0, none⟩ = some (.int .i64 o) := hk1.cellSome (by go_simp) (by simp)
 have x1 : w1.cell? ⟨w.heap.size, 1, none⟩ = some (.int .i64 n) := hk1.cellSome (by go_simp) (by simp)
 have x2 : w1.cell? ⟨w.heap.size, 2, none⟩ = some (.string s) := hk1.cellSome (by go_simp) (by simp)
 have x3 : w1.cell? ⟨w.heap.size, 3, none⟩ = some (.slice a ks.length c) := hk1.cellSome (by go_simp) (by simp)
 have K1 : Hid (Keeps [] w w1) := Keeps.trans (F := []) (G := []) (by exact Keeps.K) hk1 (fun _ _ h => h)
 clear hk1
 go_wp2_with fail
 refine ⟨⟨x0, x3⟩, ?_⟩
 iterate 1 (first | refine Plan.tA ?_ | refine Plan.tY ?_ | refine Plan.pN ?_ | refine Plan.pU ?_ | fail)
 refine Plan.fin ?_
 clear hS
 rcases h3 with ⟨rfl, g1, g2⟩ | ⟨rfl, rfl, g2⟩ | ⟨rfl, g1, g2⟩ | ⟨rfl, rfl, g2⟩ | ⟨g0, rfl, g1, g2⟩
 ·go_wp2_with fail
  go_ret
  exact ⟨rfl, K1.out.trans (G := []) (by exact Keeps.K) (fun _ _ h => h)⟩
 ·have HG := hid g2
  clear g2
  go_wp2_with fail
  refine (vCheck_any ⟨3, 0, s⟩ _ (HT.out.k (K1.out.trans (G := []) (by exact Keeps.K) (fun _ _ h => h))) (by have h4 : textOk s = true := by { have := HG.out; unfold checkD at this; simpa using this }; unfold textOk at h4; rw [Bool.and_eq_true, decide_eq_true_eq] at h4; dsimp only; omega)).mono ?_
  rintro e w2 ⟨rfl, hk2⟩
  rw [HG.out]
  have K2 : Hid (Keeps [] w w2) := (K1.out.trans (G := []) (by exact Keeps.K) (fun _ _ h => h)).trans hk2 (fun _ _ h => h)
  clear hk2
  go_wp2_with fail
  go_ret
  exact ⟨rfl, K2.out⟩
 ·rcases g1 with rfl | rfl
  all_goals
   go_wp2_with fail
   go_ret
   exact ⟨rfl, K1.out.trans (G := []) (by exact Keeps.K) (fun _ _ h => h)⟩
 ·have HG := hid g2
  clear g2
  go_wp2_with fail
  refine (lxName_any s _ (HT.out.k (K1.out.trans (G := []) (by exact Keeps.K) (fun _ _ h => h))) (HE.out.k (K1.out.trans (G := []) (by exact Keeps.K) (fun _ _ h => h)))).mono ?_
  rintro e w2 ⟨rfl, hk2⟩
  rw [HG.out]
  have K2 : Hid (Keeps [] w w2) := (K1.out.trans (G := []) (by exact Keeps.K) (fun _ _ h => h)).trans hk2 (fun _ _ h => h)
  clear hk2
  go_wp2_with fail
  go_ret
  exact ⟨rfl, K2.out⟩
 ·have q1 : (o == 1) = false := by simp; omega
  have q2 : (o == 2) = false := by simp; omega
  have q3 : (o == 3) = false := by simp; omega
  have q4 : (o == 4) = false := by simp; omega
  by_cases h22 : o = 22
  ·subst h22
   have g4 := g2 rfl
   have hl2 : (ks.length : Int) = 1 := by rw [HL.out]; rfl
   obtain ⟨k0, hk0⟩ : ∃ k0, ks[0]? = some k0 := by
    cases ks with
    | nil => simp at hl2
    | cons x r => exact ⟨x, rfl⟩
   have hop : k0.op = 4 := by
    rw [List.getD_eq_getElem?_getD, hk0] at g4
    exact g4
   have hk1 := HK.out.k K1.out
   obtain ⟨g, off, c', hv, hnc, _, _, _⟩ := hk1.addr (by intro e; subst e; simp at hl2)
   simp only [Value.slice.injEq] at hv
   obtain ⟨rfl, -, rfl⟩ := hv
   obtain ⟨cs, hcs, hcell⟩ := hk1.get hk0
   obtain ⟨o0, n0, s0, l0⟩ := k0
   obtain ⟨a9, c9, hce, _⟩ := ExprAt.parts hcs
   have y0 : w1.cell? ⟨g, off, none⟩ = some (.int .i64 o0) := by
    have := hcell 0 (.int .i64 o0) (by rw [hce]; rfl)
    simpa using this
   have hop : o0 = 4 := hop
   subst hop
   have hll : (0 : Int) < (ks.length : Int) := by omega
   clear hk1 hcs hcell hce g4 hnc hk0 hl2
   go_wp2_with fail
   go_ret
   exact ⟨rfl, K1.out.trans (G := []) (by exact Keeps.K) (fun _ _ h => h)⟩
  ·have q5 : (o != 22) = true := by simpa using h22
   clear h22
   go_wp2_with fail
   go_ret
   exact ⟨rfl, K1.out.trans (G := []) (by exact Keeps.K) (fun _ _ h => h)⟩
mutual
theorem holdsE_bd : ∀ (e : ExprD) (left deep l : Int), holdsE e left deep = (l, true) → 0 ≤ l ∧ l < left
 | .mk o n s ks, left, deep, l, h => by
   unfold holdsE at h
   split at h
   ·cases h
   ·rename_i hc
    have := holdsK_bd ks (left - 1) (deep + 1) l (by omega) h
    omega
theorem holdsK_bd : ∀ (ks : List ExprD) (left deep l : Int), 0 ≤ left → holdsK ks left deep = (l, true) → 0 ≤ l ∧ l ≤ left
 | [], left, deep, l, h0, h => by
   unfold holdsK at h
   cases h
   omega
 | e :: r, left, deep, l, h0, h => by
   unfold holdsK at h
   split at h
   ·cases h
   ·rename_i hc
    have h1 := holdsE_bd e left deep (holdsE e left deep).1 (Prod.ext rfl (by simpa using hc))
    have := holdsK_bd r _ deep l h1.1 h
    omega
end
theorem holdsE_parts {o n : Int} {s : ByteArray} {ks : List ExprD} {left deep l : Int} (h : holdsE (.mk o n s ks) left deep = (l, true)) : 1 ≤ left ∧ deep ≤ 24 ∧ aloneD (.mk o n s ks) = true ∧ holdsK ks (left - 1) (deep + 1) = (l, true) := by
 unfold holdsE at h
 split at h
 ·cases h
 ·rename_i hc
  exact ⟨by omega, by omega, by cases ha : aloneD (.mk o n s ks) <;> simp_all, h⟩
theorem holdsK_step {e : ExprD} {r : List ExprD} {left deep l : Int} (h : holdsK (e :: r) left deep = (l, true)) : ∃ m, holdsE e left deep = (m, true) ∧ holdsK r m deep = (l, true) := by
 unfold holdsK at h
 split at h
 ·cases h
 ·rename_i hc
  exact ⟨_, Prod.ext rfl (by simpa using hc), h⟩
theorem kidsN_le (o : Int) : kidsN o ≤ 3 := by
 unfold kidsN
 repeat' split
 all_goals omega
theorem ExprAt.value {w : World} {P : Nat → Prop} {o n : Int} {s : ByteArray} {ks : List ExprD} {cs : List Value} (h : ExprAt w P (.mk o n s ks) cs) : ∃ a c, Value.agg cs.toArray = .agg #[.int .i64 o, .int .i64 n, .string s, .slice a ks.length c] ∧ ListAt exprL w P (.slice a ks.length c) ks := by
 obtain ⟨a, c, rfl, h2⟩ := h.parts
 exact ⟨a, c, rfl, h2⟩
theorem paHolds_ok : ∀ (e : ExprD) (left deep l : Int) (cs : List Value) (P : Nat → Prop) (w : World), Tabs w → Errs w → ExprAt w P e cs → left ≤ 1000 → 0 ≤ deep → holdsE e left deep = (l, true) →
 Calls Tryz.prog 194 #[.agg cs.toArray, .int .i64 left, .int .i64 deep] w fun e w' => e = .returned (.tuple #[.int .i64 l, .bool true]) ∧ Keeps [] w w'
 | .mk o n s ks, left, deep, l, cs, P, w, hT, hE, hat, hl, hd, h => by
   have IH : ∀ k ∈ ks, ∀ (left deep l : Int) (cs : List Value) (P : Nat → Prop) (w : World), Tabs w → Errs w → ExprAt w P k cs → left ≤ 1000 → 0 ≤ deep → holdsE k left deep = (l, true) →
    Calls Tryz.prog 194 #[.agg cs.toArray, .int .i64 left, .int .i64 deep] w fun e w' => e = .returned (.tuple #[.int .i64 l, .bool true]) ∧ Keeps [] w w' :=
    fun k hk => paHolds_ok k
   obtain ⟨h1, h2, h3, h4⟩ := holdsE_parts h
   obtain ⟨a, c, hv, hls⟩ := hat.value
   rw [hv]
   have HIH := hid IH
   have HT := hid hT
   have HE := hid hE
   have HLS := hid hls
   have HA := hid (fun wx (k : Keeps [] w wx) => paAlone_ok o n s ks a c P wx (hT.k k) (hE.k k) (hls.k k) h3)
   have H4 := hid h4
   have hlp : (ks.length : Int) ≤ 3 := by
    have := (aloneD_parts h3).1
    have := kidsN_le o
    omega
   have w1 : IntKind.i64.wrap (left - 1) = left - 1 := by rw [IntKind.wrap_i64]; omega
   have w2 : IntKind.i64.wrap (deep + 1) = deep + 1 := by rw [IntKind.wrap_i64]; omega
   have q1 : (left - 1 < 0) = False := eq_false (by omega)
   have q2 : (24 < deep) = False := eq_false (by omega)
   clear IH hT hE hls h3 h4 hv hat h
   go_enter Tryz.func194, Tryz.ntmps194
   go_wp2_with fail
   refine (HA.out _ (by exact Keeps.K)).mono ?_
   rintro e w3 ⟨rfl, hk3⟩
   have x3 : w3.cell? ⟨w.heap.size, 3, none⟩ = some (.slice a ks.length c) := hk3.cellSome (by go_simp) (by simp)
   have K3 : Hid (Keeps [] w w3) := Keeps.trans (F := []) (G := []) (by exact Keeps.K) hk3 (fun _ _ h => h)
   clear hk3
   go_wp2_with fail
   go_loopw [1, 8, 28] (fun lv ov iv wr => ∃ (j : Nat) (lj : Int), lv = .int .i64 lj ∧ ov = .bool true ∧ iv = .int .i64 (j : Int) ∧ j ≤ ks.length ∧ lj ≤ 1000 ∧ Hid (holdsK (ks.drop j) lj (deep + 1) = (l, true) ∧ Keeps [] w wr)) (fun _ _ iv _ => ks.length - (intOf iv).toNat)
   case atStart => exact ⟨0, left - 1, rfl, rfl, rfl, Nat.zero_le _, by omega, by rw [List.drop_zero]; exact H4.out, K3.out.trans (G := []) (by exact Keeps.K) (fun _ _ h => h)⟩
   case round =>
    obtain ⟨j, lj, rfl, rfl, rfl, hj, hlj, hW⟩ := hrel
    have HW := hid hW.out
    clear hW
    have j0 : (0 : Int) ≤ (j : Int) := Int.natCast_nonneg _
    by_cases hlt : j < ks.length
    ·have i1 : (j : Int) < (ks.length : Int) := by omega
     have hw1 : IntKind.i64.wrap ((j : Int) + 1) = (j : Int) + 1 := by rw [IntKind.wrap_i64]; omega
     obtain ⟨k0, hk0⟩ : ∃ k0, ks[j]? = some k0 := ⟨_, List.getElem?_eq_getElem hlt⟩
     have hdrop : ks.drop j = k0 :: ks.drop (j + 1) := by
      rw [List.drop_eq_getElem_cons hlt]
      rw [List.getElem?_eq_getElem hlt] at hk0
      simp at hk0
      rw [hk0]
     have hst := HW.out.1
     rw [hdrop] at hst
     obtain ⟨m, hm1, hm2⟩ := holdsK_step hst
     have hkr := HLS.out.k HW.out.2
     obtain ⟨g, off, c', hv, hnc, _, _, _⟩ := hkr.addr (by intro e; subst e; simp at hlt)
     simp only [Value.slice.injEq] at hv
     obtain ⟨rfl, -, rfl⟩ := hv
     obtain ⟨cs, hcs, hcell⟩ := hkr.get hk0
     have hcalls := fun wx (k : Keeps [] wr wx) => HIH.out k0 (List.mem_of_getElem? hk0) lj (deep + 1) m cs P wx (HT.out.k (HW.out.2.trans k (fun _ _ h => h))) (HE.out.k (HW.out.2.trans k (fun _ _ h => h))) (ExprAt.keep k (fun _ _ => by simp) hcs) hlj (by omega) hm1
     obtain ⟨o0, n0, s0, l0⟩ := k0
     obtain ⟨a9, c9, rfl, _⟩ := ExprAt.parts hcs
     have hbm := holdsE_bd _ _ _ _ hm1
     have y0 : wr.cell? ⟨g, off + j * 4, none⟩ = some (.int .i64 o0) := by simpa [exprL] using hcell 0 _ rfl
     have y1 : wr.cell? ⟨g, off + j * 4 + 1, none⟩ = some (.int .i64 n0) := by simpa [exprL] using hcell 1 _ rfl
     have y2 : wr.cell? ⟨g, off + j * 4 + 2, none⟩ = some (.string s0) := by simpa [exprL] using hcell 2 _ rfl
     have y3 : wr.cell? ⟨g, off + j * 4 + 3, none⟩ = some (.slice a9 l0.length c9) := by simpa [exprL] using hcell 3 _ rfl
     have HC := hid hcalls
     have HM2 := hid hm2
     have HLT := hid hlt
     clear hcs hcell hcalls hkr hdrop hst hm1 hm2 hk0 hnc hlt
     go_wp2_with fail
     refine (HC.out _ (by exact Keeps.K)).mono ?_
     rintro e w4 ⟨rfl, hk4⟩
     have K4 : Hid (Keeps [] w w4) := HW.out.2.trans (Keeps.trans (F := []) (G := []) (by exact Keeps.K) hk4 (fun _ _ h => h)) (fun _ _ h => h)
     clear hk4
     go_wp2_with fail
     have := HLT.out
     exact ⟨⟨j + 1, m, rfl, rfl, rfl, by omega, by omega, HM2.out, K4.out⟩, by simp [intOf]; omega⟩
    ·have i1 : (ks.length : Int) ≤ (j : Int) := by omega
     have hfin := HW.out.1
     rw [List.drop_of_length_le (by omega)] at hfin
     unfold holdsK at hfin
     simp only [Prod.mk.injEq, and_true] at hfin
     subst hfin
     go_wp2_with fail
     refine bodyPost_ret (v := .tuple #[.int .i64 lj, .bool true]) (by simp [results, Tryz.results194, go_sem]) rfl ?_
     exact ⟨rfl, HW.out.2⟩
termination_by e => e
decreasing_by
 have := List.sizeOf_lt_of_mem hk
 simp
 omega
def intD (n : Int) : ValD := ⟨1, n, emptyS⟩
def truD (b : Bool) : ValD := ⟨2, if b then 1 else 0, emptyS⟩
def badD (why : Int) : ValD := ⟨4, why, emptyS⟩
def boxD (v : ValD) : ValD := if checkD v = true ∧ 1 ≤ v.kind ∧ v.kind ≤ 4 then v else val0
def needD (v : ValD) (kinds : List Int) : ValD × Bool := if v.kind = 4 then (v, false) else if kinds.contains v.kind then (v, true) else (badD 3, false)
structure FldD where
 name : List UInt8
 typ : Int
 formula : List UInt8
 rule : List UInt8
 shown : List UInt8
def form0 : List FldD := [⟨[97], 1, [], [97, 32, 62, 61, 32, 48], []⟩, ⟨[98], 1, [], [], []⟩, ⟨[115, 117, 109], 1, [97, 43, 98], [115, 117, 109, 32, 60, 32, 49, 48, 48], []⟩, ⟨[98, 105, 103], 2, [115, 117, 109, 32, 62, 32, 49, 48], [], []⟩, ⟨[110, 111, 116, 101], 3, [], [108, 101, 110, 40, 110, 111, 116, 101, 41, 32, 60, 32, 50, 48], [98, 105, 103]⟩]
def form1 : List FldD := [⟨[116, 111, 116, 97, 108], 1, [112, 114, 105, 99, 101, 32, 42, 32, 97, 109, 111, 117, 110, 116], [116, 111, 116, 97, 108, 32, 60, 61, 32, 49, 48, 48, 48], []⟩, ⟨[112, 114, 105, 99, 101], 1, [], [], []⟩, ⟨[97, 109, 111, 117, 110, 116], 1, [], [97, 109, 111, 117, 110, 116, 32, 62, 32, 48], []⟩, ⟨[99, 111, 117, 112, 111, 110], 3, [], [108, 101, 110, 40, 99, 111, 117, 112, 111, 110, 41, 32, 61, 32, 52], [97, 109, 111, 117, 110, 116, 32, 62, 32, 53]⟩]
def form2 : List FldD := [⟨[102, 105, 114, 115, 116], 3, [], [], []⟩, ⟨[108, 97, 115, 116], 3, [], [], []⟩, ⟨[102, 117, 108, 108], 3, [99, 97, 116, 40, 102, 105, 114, 115, 116, 44, 32, 99, 97, 116, 40, 34, 32, 34, 44, 32, 108, 97, 115, 116, 41, 41], [108, 101, 110, 40, 102, 117, 108, 108, 41, 32, 62, 32, 51], []⟩, ⟨[108, 111, 117, 100], 2, [], [], []⟩, ⟨[115, 104, 111, 117, 116], 3, [117, 112, 40, 102, 117, 108, 108, 41], [], [108, 111, 117, 100]⟩]
def form3 : List FldD := [⟨[119], 2, [122, 32, 62, 32, 51, 32, 124, 32, 120, 32, 61, 32, 48], [], []⟩, ⟨[120], 1, [], [], []⟩, ⟨[121], 1, [105, 102, 40, 104, 97, 115, 40, 120, 41, 44, 32, 120, 32, 37, 32, 55, 44, 32, 48, 41], [], []⟩, ⟨[122], 1, [49, 48, 48, 32, 47, 32, 121], [122, 32, 62, 32, 45, 53, 48], []⟩]
def form4 : List FldD := [⟨[110], 1, [], [110, 32, 60, 32, 53, 48], []⟩, ⟨[116], 3, [99, 117, 116, 40, 115, 44, 32, 110, 41], [], []⟩, ⟨[115], 3, [], [], []⟩, ⟨[102], 2, [116, 32, 61, 32, 115], [102], []⟩]
def formD (k : Int) : List FldD := if k = 0 then form0 else if k = 1 then form1 else if k = 2 then form2 else if k = 3 then form3 else form4
def parseD (s : List UInt8) : Option ExprD :=
 if (lexR s).2.2 ≠ 0 then none
 else match readP 2000 (lexR s).1 with
  | some (.ok (e, _)) => if exprOk e = true then some e else none
  | _ => none
def exprD (s : List UInt8) : Option (Option ExprD) := if s = [] then some none else match parseD s with
 | none => none
 | some e => some (some e)
structure SfdD where
 f : FldD
 formula : Option ExprD
 rule : Option ExprD
 shown : Option ExprD
 needs : List Nat
def typed (e : Option ExprD) (t : Int) (names : List ByteArray) (types : List Int) : Bool :=
 match e with
 | none => true
 | some e => decide ((ofE e names types).2 = 0) && decide ((ofE e names types).1 = t)
def insT (x : List UInt8) : List (List UInt8) → List (List UInt8)
 | [] => [x]
 | y :: r => if bytesBefore y x = true then y :: insT x r else x :: y :: r
def sortT (l : List (List UInt8)) : List (List UInt8) := l.foldr insT []
def insN (x : Nat) : List Nat → List Nat
 | [] => [x]
 | y :: r => if y < x then y :: insN x r else x :: y :: r
def sortN (l : List Nat) : List Nat := l.foldr insN []
def namesD (e : ExprD) : List (List UInt8) := Lib.compact (sortT ((namesE e).map (·.data.toList)))
def idx (s : List UInt8) : List (List UInt8) → Nat
 | [] => 0
 | x :: r => if x == s then 0 else idx s r + 1
def needsD (e : Option ExprD) (names : List (List UInt8)) : List Nat :=
 match e with
 | none => []
 | some e => sortN ((namesD e).map fun s => idx s names)
def fieldD (names : List (List UInt8)) (types : List Int) (f : FldD) : Option SfdD :=
 match exprD f.formula, exprD f.rule, exprD f.shown with
 | some a, some b, some c =>
   if typed a f.typ (names.map str) types = true ∧ typed b 2 (names.map str) types = true ∧ typed c 2 (names.map str) types = true then some ⟨f, a, b, c, needsD a names⟩ else none
 | _, _, _ => none
def fieldsD (names : List (List UInt8)) (types : List Int) : List FldD → Option (List SfdD)
 | [] => some []
 | f :: r => match fieldD names types f, fieldsD names types r with
   | some x, some l => some (x :: l)
   | _, _ => none
structure SchD where
 l : List SfdD
 order : List Nat
end Go.Proofs.YtgjiahilbmeaeaaGreatDoor