/- Bytes behind bytes: PutInt, PutText of wire; palaverref03's Int, Text. -/
import Derived.Test.YtnekkkppjofdlaaDoorLays
import Derived.Test.YtnekkkppjofdlaaDoorVaT
import Derived.Test.YtnekkkppjofdlaaDoorBytes
import Derived.Lib.Zigzag
import Derived.Lib.Varint
import Derived.Lib.AppendStr
namespace Go.Proofs.YtnekkkppjofdlaaDoor
open Go Go.RowKit

theorem Tryd.infoU8 : (Tryd.prog.info? 5).map (fun i => (i.zero, i.size, i.bytes)) = some (some (.int .u8 0), 1, 1) := by kernel_rfl

theorem u8s_snoc (bs cs : List UInt8) : u8s (bs ++ cs) = u8s bs ++ u8s cs := by simp [u8s]

/-- Bytes that may be appended to, seen by nobody else: the call's own row, or one that is full. -/
def PutSt (w : World) (base : Nat) (v : Value) (bs : List UInt8) : Prop :=
  w.ownsRow base 5 1 v bs.length (u8s bs) ∨ ∃ ao, v = .slice ao bs.length bs.length ∧ Reads w 1 v bs.length (u8s bs)

theorem wpList_put1 {ops : Array Oper} {rest : List Oper} {o : Oper} {a : Act} {Q : Exit → Act → World → Prop} (w : World) (hgd : o.guard = none) (s x : Operand)
    (ho : o.op = .call { callee := .builtin .append, args := #[s, x], argTypes := #[50, 50] })
    (base : Nat) (i : TypeInfo) (hi : Tryd.prog.info? 5 = some i) (hz : i.zero = some (.int .u8 0)) (hsize : i.size = 1) (hby : i.bytes = 1)
    (v : Value) (hs : a.eval s = v) (bs : List UInt8) (n : Nat) (hn : bs.length = n) (hst : PutSt w base v bs) (b : Nat) (hx : a.eval x = .slice (some ⟨b, 0, none⟩) 1 1) (c : UInt8) (z : Int) (hc : z = (c.toNat : Int)) (t' : TypeId) (fr : Nat × Nat) (hb : w.heap[b]? = some (.cells #[.int .u8 z] t' fr))
    (hbytes : n + 1 ≤ 140737488355328) (hbase : base ≤ w.heap.size)
    (h : ∀ a' c' w', Hid (w'.ownsRow base 5 1 (.slice a' (n + 1) c') (n + 1) (u8s (bs ++ [c]))) → Hid (∀ w0 : World, w0.heap.size ≤ base → Keeps [] w0 w → Keeps [] w0 w') → wpList Tryd.prog ops Q rest (a.put o.dst (.slice a' (n + 1) c')) w') : wpList Tryd.prog ops Q (o :: rest) a w := by
  subst hn
  subst hc
  have h63 : bs.length + 1 ≤ maxLen := le_maxLen (by omega)
  have hr : Reads w 1 (.slice (some ⟨b, 0, none⟩) 1 1) 1 (u8s [c]) := Reads.ofBlock hb rfl (by unfold maxLen; omega)
  rcases hst with hown | ⟨ao, rfl, hrd⟩
  · refine wpList_append_reads w hgd s x 50 ho base 5 i (.int .u8 0) 1 1 Tryd.underlying50 hi hz hsize hby rfl (by decide) v hs bs.length (u8s bs) hown _ hx 1 (u8s [c]) hr (u8s_one _) (by omega) h63 hbase fun a' c' w' g1 g2 _ _ => ?_
    refine h a' c' w' (by show w'.ownsRow _ _ _ _ _ _; rw [u8s_snoc]; exact g1.out) fun w0 hw0 k0 => ?_
    exact k0.trans (Keeps.ofGrown (F := ownB v) g2.out (fun k hk => by rw [mem_ownB]; exact hk)) (fun k hk hm => by have := (ownB_ge hown k hm).1; omega)
  · refine wpList_append_grows w hgd s x 50 ho 5 i (.int .u8 0) 1 1 Tryd.underlying50 hi hz hsize hby rfl (by decide) ao bs.length bs.length (u8s bs) hs ?_ (by rw [u8s_length, Nat.mul_one]) ?_ ⟨b, 0, none⟩ 1 1 (u8s [c]) hx (by simp [u8s]) ?_ (u8s_one _) (by omega) h63 (by omega) fun v' w' g1 g2 => ?_
    · intro hn
      rcases hrd.2 with ⟨h0, _⟩ | ⟨_, g, off, c, hv, _⟩
      · exact ⟨h0, h0⟩
      · rw [hn] at hv; cases hv
    · intro g hg j u hu
      rcases hrd.2 with ⟨h0, _⟩ | ⟨_, b', off, c', hv, _, _, _, hcell⟩
      · have : bs = [] := List.eq_nil_of_length_eq_zero h0
        subst this
        simp [u8s] at hu
      · rw [hg] at hv
        cases hv
        have := hcell j u hu
        rw [addr_add]
        exact this
    · intro j u hu
      rw [addr_add, Nat.zero_add]
      refine (cell_of_block hb j).trans ?_
      simp [u8s] at hu ⊢
      exact hu
    · obtain ⟨a', c', rfl⟩ := len_form g1
      refine h a' c' w' (by show w'.ownsRow _ _ _ _ _ _; rw [u8s_snoc]; exact ownsRow_base g1 hbase) fun w0 hw0 k0 => ?_
      exact k0.trans (Keeps.ofGrown (F := []) g2 (fun _ h => by cases h)) (fun _ _ h => h)

theorem zz (v : Int) (hv : I64 v) : bits .xor .u64 (IntKind.u64.wrap (IntKind.u64.wrap v * 2)) (IntKind.u64.wrap (v / 9223372036854775808)) = ((Lib.zigzag v : Nat) : Int) := by
  obtain ⟨v0, v1⟩ := hv
  by_cases h : 0 ≤ v
  · have e1 : v / 9223372036854775808 = 0 := by omega
    rw [e1, Lib.zigzag_nonneg h]
    have e2 : IntKind.u64.wrap (IntKind.u64.wrap v * 2) = ((v.toNat * 2 : Nat) : Int) := by rw [IntKind.wrap_u64, IntKind.wrap_u64]; omega
    have e3 : IntKind.u64.wrap 0 = ((0 : Nat) : Int) := by decide
    rw [e2, e3, bits_xor_u64_nat _ _ (by omega) (by decide), Nat.xor_zero]
    omega
  · have e1 : v / 9223372036854775808 = -1 := by omega
    have e2 : IntKind.u64.wrap (-1) = IntKind.u64.max := by decide
    rw [e1, e2, ← Lib.zigzag_neg v0 (by omega)]
    have e3 : IntKind.u64.wrap (IntKind.u64.wrap v * 2) = (((2 * v + 18446744073709551616).toNat : Nat) : Int) := by
      rw [IntKind.wrap_u64, IntKind.wrap_u64]; omega
    have e4 : IntKind.u64.max = ((2 ^ 64 - 1 : Nat) : Int) := by decide
    rw [e3, e4, bits_xor_u64_nat _ _ (by omega) (by decide), bits_xor_u64_nat _ _ (by decide) (by omega), Nat.xor_comm]
theorem byte_of (n : Nat) (h : n < 256) : ((n.toUInt8).toNat : Int) = (n : Int) := by simp; omega

theorem PutSt.k {w w' : World} {base : Nat} {v : Value} {bs : List UInt8} (h : PutSt w base v bs) (k : Keeps [] w w') : PutSt w' base v bs := by
  rcases h with h | ⟨ao, rfl, h⟩
  · exact .inl (ownsRow_keeps h k (fun _ _ h => by cases h))
  · exact .inr ⟨ao, rfl, h.keeps k (fun _ _ h => by cases h)⟩
theorem Reads.full {w : World} {a : Option Addr} {n c : Nat} {xs : List Value} (h : Reads w 1 (.slice a n c) n xs) : Reads w 1 (.slice a n n) n xs := by
  obtain ⟨hl, h | ⟨hp, b, off, c', hv, hnc, hc, hb, hx⟩⟩ := h
  · exact ⟨hl, .inl ⟨h.1, a, 0, by rw [h.1]⟩⟩
  · cases hv
    exact ⟨hl, .inr ⟨hp, b, off, n, rfl, Nat.le_refl _, Nat.le_trans hnc hc, hb, hx⟩⟩

def PutPost (bs xs : List UInt8) (w : World) (e : Ending) (w' : World) : Prop :=
  ∃ a q, e = .returned (.slice a (bs ++ xs).length q) ∧ w'.ownsRow w.heap.size 5 1 (.slice a (bs ++ xs).length q) (bs ++ xs).length (u8s (bs ++ xs)) ∧ Keeps [] w w'

set_option maxRecDepth 100000 in
set_option maxHeartbeats 3200000 in
theorem putInt_any (a : Option Addr) (bs : List UInt8) (c : Nat) (v : Int) (hv : I64 v) (w : World) (hr : Reads w 1 (.slice a bs.length c) bs.length (u8s bs)) (hb : bs.length ≤ 140737488355000) :
    Calls Tryd.prog 55 #[.slice a bs.length c, .int .i64 v] w (PutPost bs (Lib.uvarint (Lib.zigzag v)) w) := by
  obtain ⟨ip, hi, hz0, hz1, hz2⟩ := info_parts Tryd.infoU8
  have HR := hid hr
  obtain ⟨v0, v1⟩ := hv
  have hlc : bs.length ≤ c := by
    rcases hr.2 with ⟨h0, _⟩ | ⟨_, b, off, c', hv, h, _⟩
    · omega
    · cases hv; exact h
  clear hr
  go_enter Tryd.func55, Tryd.ntmps55
  go_wp2_with fail
  rw [zz v ⟨v0, v1⟩]
  have hz64 := Lib.zigzag_lt v0 v1
  have HU : Hid ((Lib.uvarint (Lib.zigzag v)).length ≤ 10) := Lib.uvarint_length64 hz64
  obtain ⟨z, hz⟩ : ∃ z, Lib.zigzag v = z := ⟨_, rfl⟩
  have HZG := hid hz
  rw [hz] at hz64 HU ⊢
  clear hz
  go_loopw [0, 5] (fun s u wr => ∃ (acc : List UInt8) (n x q : Nat) (ao : Option Addr), x ≤ z ∧ n ≤ bs.length + 10 ∧ s = .slice ao n q ∧ u = .int .u64 x ∧ Hid ((bs ++ acc).length = n ∧ PutSt wr w.heap.size (.slice ao n q) (bs ++ acc) ∧ Lib.uvarint z = acc ++ Lib.uvarint x ∧ Keeps [] w wr)) (fun _ u _ => (intOf u).toNat)
  case atStart => exact ⟨[], bs.length, z, bs.length, a, Nat.le_refl _, by omega, rfl, rfl, by simp, .inr ⟨a, by simp, by simpa using HR.out.full⟩, by simp, Keeps.refl [] w⟩
  case round =>
    obtain ⟨acc, n, x, q, ao, hxz, hnb, rfl, rfl, HW⟩ := hrel
    have i0 : (0 : Int) ≤ (x : Int) := Int.natCast_nonneg _
    have HZ : Hid (w.heap.size ≤ wr.heap.size) := HW.out.2.2.2.size
    have HN : Hid ((bs ++ acc).length = n) := HW.out.1
    have hn63 : n + 1 ≤ 140737488355328 := by omega
    by_cases hlt : 128 ≤ x
    · have hlt' : (128 : Int) ≤ (x : Int) := by omega
      have hx64 : x < 18446744073709551616 := by omega
      go_wp2_with (at_builtin; go_must (refine wpList_put1 _ (by rfl) _ _ (by rfl) w.heap.size ip hi hz0 hz1 hz2 (.slice ao n q) (by rfl) (bs ++ acc) n HN.out (HW.out.2.1.k (by exact Keeps.K)) wr.heap.size (by rfl) ((x % 128 + 128).toUInt8) _ (by rw [Lib.u8_or128_any _ (by omega) (by omega), byte_of _ (by omega)]; omega) 5 (0, 0) (heap_alloc_new _ _) hn63 (Nat.le_trans HZ.out (by simp)) ?_; intro a4 q4 w4 ho4 hk4))
      have HB := Lib.uvarint_big (by omega : 128 ≤ x)
      have HL := HU.out
      rw [HW.out.2.2.1, HB] at HL
      simp only [List.length_append, List.length_cons] at HL
      have HP : 1 ≤ (Lib.uvarint (x / 128)).length := Lib.uvarint_pos _
      have hn0 := HN.out
      rw [List.length_append] at hn0
      refine ⟨⟨acc ++ [(x % 128 + 128).toUInt8], n + 1, x / 128, q4, a4, by omega, by omega, rfl, by simp, ⟨by simp; omega, ?_, ?_, ?_⟩⟩, by simp [intOf]; omega⟩
      · rw [← List.append_assoc]
        refine .inl ?_
        have hl : (bs ++ acc ++ [(x % 128 + 128).toUInt8]).length = n + 1 := by simp; omega
        rw [hl]
        exact ho4.out
      · rw [HW.out.2.2.1, HB]; simp
      · exact hk4.out w (Nat.le_refl _) (by have kk := HW.out.2.2.2; exact Keeps.K)
    · have hge : (x : Int) < 128 := by omega
      go_wp2_with (at_builtin; go_must (refine wpList_put1 _ (by rfl) _ _ (by rfl) w.heap.size ip hi hz0 hz1 hz2 (.slice ao n q) (by rfl) (bs ++ acc) n HN.out (HW.out.2.1.k (by exact Keeps.K)) wr.heap.size (by rfl) (x.toUInt8) _ (by rw [byte_of _ (by omega)]) 5 (0, 0) (heap_alloc_new _ _) hn63 (Nat.le_trans HZ.out (by simp)) ?_; intro a4 q4 w4 ho4 hk4))
      go_ret
      have HB := Lib.uvarint_small (by omega : x < 128)
      have E : Hid (Lib.uvarint z = acc ++ [x.toUInt8]) := by show _ = _; rw [HW.out.2.2.1, HB]
      rw [HZG.out, E.out]
      have hl : (bs ++ (acc ++ [x.toUInt8])).length = n + 1 := by have := HN.out; simp at this ⊢; omega
      refine ⟨a4, q4, by rw [hl]; rfl, ?_, hk4.out w (Nat.le_refl _) (by have kk := HW.out.2.2.2; exact Keeps.K)⟩
      rw [hl, ← List.append_assoc]
      exact ho4.out

end Go.Proofs.YtnekkkppjofdlaaDoor
