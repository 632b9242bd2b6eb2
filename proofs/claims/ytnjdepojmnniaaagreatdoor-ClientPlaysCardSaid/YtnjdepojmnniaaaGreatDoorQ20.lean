/- Joined of WireB, WireC. -/
import Derived.Test.YtnjdepojmnniaaaGreatDoorQ19
import Derived.Test.YtnjdepojmnniaaaGreatDoorQ02

set_option linter.unusedSimpArgs false
set_option linter.unusedVariables false

/- Texts behind bytes; a value put: PutText of wire, Put of value. -/
namespace Go.Proofs.YtnjdepojmnniaaaGreatDoor
open Go Go.RowKit

theorem wpList_putStr {ops : Array Oper} {rest : List Oper} {o : Oper} {a : Act} {Q : Exit → Act → World → Prop} (w : World) (hgd : o.guard = none) (s x : Operand)
    (ho : o.op = .call { callee := .builtin .append, args := #[s, x], argTypes := #[36, 9] })
    (base : Nat) (i : TypeInfo) (hi : Tryz.prog.info? 5 = some i) (hz : i.zero = some (.int .u8 0)) (hsize : i.size = 1) (hby : i.bytes = 1)
    (v : Value) (hs : a.eval s = v) (bs : List UInt8) (n : Nat) (hn : bs.length = n) (hown : w.ownsRow base 5 1 v n (u8s bs)) (t : ByteArray) (hx : a.eval x = .string t)
    (hbytes : n + t.size ≤ 140737488355328) (hbase : base ≤ w.heap.size)
    (h : ∀ a' c' w', Hid (w'.ownsRow base 5 1 (.slice a' (n + t.size) c') (n + t.size) (u8s (bs ++ t.data.toList))) → Hid (∀ w0 : World, w0.heap.size ≤ base → Keeps [] w0 w → Keeps [] w0 w') → wpList Tryz.prog ops Q rest (a.put o.dst (.slice a' (n + t.size) c')) w') : wpList Tryz.prog ops Q (o :: rest) a w := by
  subst hn
  refine Lib.wpList_append_own_string w hgd s x 36 9 ho base 5 i Tryz.underlying36 Tryz.underlying9 hi hz hsize hby v bs.length (u8s bs) hs hown t hx (le_maxLen (by omega)) hbytes hbase fun v' w' g1 g2 _ => ?_
  obtain ⟨a', c', rfl⟩ := len_form g1
  refine h a' c' w' (by show w'.ownsRow _ _ _ _ _ _; rw [show u8s (bs ++ t.data.toList) = u8s bs ++ Lib.strCells t by simp [u8s, Lib.strCells]]; exact g1) fun w0 hw0 k0 => ?_
  exact k0.trans (Keeps.ofGrown (F := ownB v) g2 (fun k hk => by rw [mem_ownB]; exact hk)) (fun k hk hm => by have := (ownB_ge hown k hm).1; omega)

theorem Reads.k0 {w w' : World} {v : Value} {n : Nat} {xs : List Value} (h : Reads w 1 v n xs) (k : Keeps [] w w') : Reads w' 1 v n xs := h.keeps k (fun _ _ h => by cases h)
theorem intL_len {v : Int} (hv : I64 v) : (intL v).length ≤ 10 := Lib.uvarint_length64 (Lib.zigzag_lt hv.1 hv.2)

set_option maxRecDepth 100000 in
set_option maxHeartbeats 1600000 in
theorem putText_any (a : Option Addr) (bs : List UInt8) (n : Nat) (hn : bs.length = n) (c : Nat) (s : ByteArray) (w : World) (hr : Reads w 1 (.slice a n c) n (u8s bs)) (hb : bs.length + s.size ≤ 140737488354500) (hs : s.size ≤ 1000000) :
    Calls Tryz.prog 63 #[.slice a n c, .string s] w (PutPost bs (textL s) w) := by
  subst hn
  obtain ⟨ip, hi, hz0, hz1, hz2⟩ := info_parts Tryz.infoU8
  have HR := hid hr
  clear hr
  have hI : I64 (s.size : Int) := ⟨by omega, by omega⟩
  have HI := intL_len hI
  go_enter Tryz.func63, Tryz.ntmps63
  go_wp2_with fail
  refine (putInt_any a bs c s.size hI _ HR.out (by omega)).mono ?_
  rintro e w1 ⟨a1, q1, rfl, h1, h2⟩
  have H1 := hid h1
  have H2 : Hid (Keeps [] w w1) := Keeps.trans (by exact Keeps.K) h2 (fun _ _ h => h)
  have HE : Hid (w.heap.size ≤ w1.heap.size) := H2.out.size
  obtain ⟨l1, hl1⟩ : ∃ l1, bs ++ Lib.uvarint (Lib.zigzag (s.size : Int)) = l1 := ⟨_, rfl⟩
  have hl2 : l1.length ≤ bs.length + 10 := by rw [← hl1, List.length_append]; unfold intL at HI; omega
  have HL := hid hl1
  rw [hl1] at H1 ⊢
  clear h1 h2 hl1 HI
  go_wp2_with (at_builtin; go_must (refine wpList_putStr _ (by rfl) _ _ (by rfl) w.heap.size ip hi hz0 hz1 hz2 (.slice a1 l1.length q1) (by rfl) l1 l1.length rfl (by simpa using H1.out) s (by rfl) (by omega) HE.out ?_; intro a4 q4 w4 ho4 hk4))
  go_ret
  have e : bs ++ textL s = l1 ++ s.data.toList := by rw [← HL.out]; unfold textL intL; rw [List.append_assoc]
  have hl : (bs ++ textL s).length = l1.length + s.size := by rw [e, List.length_append]; rfl
  refine ⟨a4, q4, by rw [hl]; rfl, ?_, hk4.out w (Nat.le_refl _) H2.out⟩
  rw [hl, e]
  exact ho4.out

/-- What was put may be put behind. -/
theorem PutPost.reads {bs xs : List UInt8} {w w' : World} {a : Option Addr} {q : Nat} (h : w'.ownsRow w.heap.size 5 1 (.slice a (bs ++ xs).length q) (bs ++ xs).length (u8s (bs ++ xs))) : Reads w' 1 (.slice a (bs ++ xs).length q) (bs ++ xs).length (u8s (bs ++ xs)) := Reads.ofOwn h

set_option maxRecDepth 100000 in
set_option maxHeartbeats 1600000 in
theorem vPut_any (a : Option Addr) (bs : List UInt8) (n : Nat) (hn : bs.length = n) (c : Nat) (v : ValD) (w : World) (hr : Reads w 1 (.slice a n c) n (u8s bs)) (hb : bs.length + v.s.size ≤ 140737488354000) (hs : v.s.size ≤ 1000000) (hk : I64 v.kind) (hv : I64 v.n) :
    Calls Tryz.prog 62 #[.slice a n c, valV v] w (PutPost bs (putL v) w) := by
  obtain ⟨k, m, s⟩ := v
  subst hn
  have HR := hid hr
  have HK := hid hk
  have HV := hid hv
  have lk := intL_len hk
  have lv := intL_len hv
  clear hr hk hv
  unfold valV
  dsimp only at hb hs lk lv
  go_enter Tryz.func62, Tryz.ntmps62
  go_wp2_with fail
  refine Plan.wp_region_plan (fun wx => wx.cell? ⟨w.heap.size, 0, none⟩ = some (.int .i64 k) ∧ wx.cell? ⟨w.heap.size, 1, none⟩ = some (.int .i64 m) ∧ wx.cell? ⟨w.heap.size, 2, none⟩ = some (.string s)) 9 [(true, 0), (true, 1), (true, 2), (true, 4), (true, 5), (true, 7), (true, 8), (false, 3), (false, 6)] (by kernel_rfl) (by as_aux_lemma => kernel_rfl) (by kernel_rfl) (fun _ _ _ _ _ h => h) ?_ (fun hS => ?_)
  (· go_simp)
  simp only [Plan.pick, List.append_eq, List.cons_append, List.nil_append, Plan.g1, Plan.g2, Option.getD_some, List.drop_succ_cons, List.drop_zero]
  iterate 7 (first | refine Plan.tA ?_ | refine Plan.tY ?_ | refine Plan.pN ?_ | refine Plan.pU ?_ | fail)
  refine Plan.step ?_
  go_wp2_with fail
  refine (putInt_any a bs c k HK.out _ (HR.out.k0 (by exact Keeps.K)) (by omega)).mono ?_
  rintro e w1 ⟨a1, q1, rfl, h1, h2⟩
  have f0 : w1.cell? ⟨w.heap.size, 0, none⟩ = some (.int .i64 k) := h2.cellSome (by go_simp) (by simp)
  have f1 : w1.cell? ⟨w.heap.size, 1, none⟩ = some (.int .i64 m) := h2.cellSome (by go_simp) (by simp)
  have f2 : w1.cell? ⟨w.heap.size, 2, none⟩ = some (.string s) := h2.cellSome (by go_simp) (by simp)
  have H1 := hid h1
  have H2 : Hid (Keeps [] w w1) := Keeps.trans (by exact Keeps.K) h2 (fun _ _ h => h)
  obtain ⟨l1, hl1⟩ : ∃ l1, bs ++ Lib.uvarint (Lib.zigzag k) = l1 := ⟨_, rfl⟩
  have hz1 : l1.length ≤ bs.length + 10 := by rw [← hl1, List.length_append]; unfold intL at lk; omega
  have HL1 := hid hl1
  rw [hl1] at H1 ⊢
  clear h1 h2 hl1 hS
  go_wp2_with fail
  refine ⟨?_, ?_⟩
  (· go_simp)
  refine Plan.step ?_
  go_wp2_with fail
  refine (putInt_any a1 l1 q1 m HV.out _ (Reads.ofOwn H1.out) (by omega)).mono ?_
  rintro e w2 ⟨a2, q2, rfl, h1, h2⟩
  have g0 : w2.cell? ⟨w.heap.size, 0, none⟩ = some (.int .i64 k) := h2.cellSome (by go_simp) (by simp)
  have g1 : w2.cell? ⟨w.heap.size, 1, none⟩ = some (.int .i64 m) := h2.cellSome (by go_simp) (by simp)
  have g2 : w2.cell? ⟨w.heap.size, 2, none⟩ = some (.string s) := h2.cellSome (by go_simp) (by simp)
  have K2 : Hid (Keeps [] w w2) := Keeps.trans H2.out h2 (fun _ _ h => h)
  have J2 := hid h1
  obtain ⟨l2, hl2⟩ : ∃ l2, l1 ++ Lib.uvarint (Lib.zigzag m) = l2 := ⟨_, rfl⟩
  have hz2 : l2.length ≤ bs.length + 20 := by rw [← hl2, List.length_append]; unfold intL at lv; omega
  have HL2 := hid hl2
  rw [hl2] at J2 ⊢
  clear h1 h2 hl2 f0 f1 f2
  go_wp2_with fail
  refine ⟨?_, ?_⟩
  (· go_simp)
  refine Plan.fin ?_
  go_wp2_with fail
  refine (putText_any a2 l2 l2.length rfl q2 s _ (Reads.ofOwn J2.out) (by omega) hs).mono ?_
  rintro e w3 ⟨a3, q3, rfl, h1, h2⟩
  have J3 := hid h1
  have K3 : Hid (Keeps [] w w3) := Keeps.trans K2.out h2 (fun _ _ h => h)
  have HB : Hid (w.heap.size ≤ w2.heap.size) := K2.out.size
  have HE : Hid (bs ++ putL ⟨k, m, s⟩ = l2 ++ textL s) := by
    show _ = _
    rw [← HL2.out, ← HL1.out]; unfold putL intL; simp only [List.append_assoc]
  clear h1 h2
  go_wp2_with fail
  go_ret
  unfold PutPost
  rw [HE.out]
  exact ⟨a3, q3, by rw [List.length_append]; rfl, ownsRow_base J3.out HB.out, K3.out⟩

end Go.Proofs.YtnjdepojmnniaaaGreatDoor

/- The document's bytes: Int, Text, a value's. -/
namespace Go.Proofs.YtnjdepojmnniaaaGreatDoor
open Go Go.RowKit

theorem zig_pos (v : Int) (h : 0 ≤ v) : v * 2 = ((Lib.zigzag v : Nat) : Int) := (Lib.zigzag_nonneg h).symm
theorem zig_neg (v : Int) (h : v < 0) : -(v + 1) * 2 + 1 = ((Lib.zigzag v : Nat) : Int) := by
  unfold Lib.zigzag
  rw [if_neg (by omega)]
  omega

set_option maxRecDepth 100000 in
set_option maxHeartbeats 3200000 in
theorem r3Int_pos (v : Int) (hv : I64 v) (hs : ¬ v < 0) (w : World) : Calls Tryz.prog 49 #[.int .i64 v] w (PutPost [] (intL v) w) := by
  obtain ⟨ip, hi, hz0, hz1, hz2⟩ := info_parts Tryz.infoU8
  obtain ⟨v0, v1⟩ := hv
  go_enter Tryz.func49, Tryz.ntmps49
  go_wp2_with fail
  rw [zig_pos v (by omega)]
  have hz64 := Lib.zigzag_lt v0 v1
  have HU : Hid ((Lib.uvarint (Lib.zigzag v)).length ≤ 10) := Lib.uvarint_length64 hz64
  obtain ⟨z, hz⟩ : ∃ z, Lib.zigzag v = z := ⟨_, rfl⟩
  have HZG := hid hz
  rw [hz] at hz64 HU ⊢
  clear hz
  go_loopw [4, 3] (fun s u wr => ∃ (acc : List UInt8) (n x q : Nat) (ao : Option Addr), x ≤ z ∧ n ≤ 10 ∧ s = .slice ao n q ∧ u = .int .u64 x ∧ Hid (acc.length = n ∧ PutSt wr w.heap.size (.slice ao n q) acc ∧ Lib.uvarint z = acc ++ Lib.uvarint x ∧ Keeps [] w wr)) (fun _ u _ => (intOf u).toNat)
  case atStart => exact ⟨[], 0, z, 0, none, Nat.le_refl _, by omega, rfl, rfl, rfl, .inr ⟨none, rfl, rfl, .inl ⟨rfl, none, 0, rfl⟩⟩, rfl, Keeps.refl [] w⟩
  case round =>
    obtain ⟨acc, n, x, q, ao, hxz, hnb, rfl, rfl, HW⟩ := hrel
    have i0 : (0 : Int) ≤ (x : Int) := Int.natCast_nonneg _
    have HZ : Hid (w.heap.size ≤ wr.heap.size) := HW.out.2.2.2.size
    have HN : Hid (acc.length = n) := HW.out.1
    have hn63 : n + 1 ≤ 140737488355328 := by omega
    by_cases hlt : 128 ≤ x
    · have hlt' : (128 : Int) ≤ (x : Int) := by omega
      have hx64 : x < 18446744073709551616 := by omega
      go_wp2_with (at_builtin; go_must (refine wpList_put1 _ (by rfl) _ _ (by rfl) w.heap.size ip hi hz0 hz1 hz2 (.slice ao n q) (by rfl) acc n HN.out (HW.out.2.1.k (by exact Keeps.K)) wr.heap.size (by rfl) ((x % 128 + 128).toUInt8) _ (by rw [byte_of _ (by omega)]; omega) 5 (0, 0) (heap_alloc_new _ _) hn63 (Nat.le_trans HZ.out (by simp)) ?_; intro a4 q4 w4 ho4 hk4))
      have HB := Lib.uvarint_big (by omega : 128 ≤ x)
      have HL := HU.out
      rw [HW.out.2.2.1, HB] at HL
      simp only [List.length_append, List.length_cons] at HL
      have HP : 1 ≤ (Lib.uvarint (x / 128)).length := Lib.uvarint_pos _
      have hn0 := HN.out
      refine ⟨⟨acc ++ [(x % 128 + 128).toUInt8], n + 1, x / 128, q4, a4, by omega, by omega, rfl, by simp, ⟨by simp; omega, ?_, ?_, ?_⟩⟩, by simp [intOf]; omega⟩
      · refine .inl ?_
        have hl : (acc ++ [(x % 128 + 128).toUInt8]).length = n + 1 := by simp; omega
        rw [hl]
        exact ho4.out
      · rw [HW.out.2.2.1, HB]; simp
      · exact hk4.out w (Nat.le_refl _) (by have kk := HW.out.2.2.2; exact Keeps.K)
    · have hge : (x : Int) < 128 := by omega
      go_wp2_with (at_builtin; go_must (refine wpList_put1 _ (by rfl) _ _ (by rfl) w.heap.size ip hi hz0 hz1 hz2 (.slice ao n q) (by rfl) acc n HN.out (HW.out.2.1.k (by exact Keeps.K)) wr.heap.size (by rfl) (x.toUInt8) _ (by rw [byte_of _ (by omega)]) 5 (0, 0) (heap_alloc_new _ _) hn63 (Nat.le_trans HZ.out (by simp)) ?_; intro a4 q4 w4 ho4 hk4))
      go_ret
      have HB := Lib.uvarint_small (by omega : x < 128)
      have E : Hid (intL v = acc ++ [x.toUInt8]) := by show _ = _; unfold intL; rw [HZG.out, HW.out.2.2.1, HB]
      have hl : ([] ++ (acc ++ [x.toUInt8])).length = n + 1 := by have := HN.out; simp at this ⊢; omega
      unfold PutPost
      rw [E.out]
      refine ⟨a4, q4, by rw [hl]; rfl, ?_, hk4.out w (Nat.le_refl _) (by have kk := HW.out.2.2.2; exact Keeps.K)⟩
      rw [hl, List.nil_append]
      exact ho4.out

set_option maxRecDepth 100000 in
set_option maxHeartbeats 3200000 in
theorem r3Int_neg (v : Int) (hv : I64 v) (hs : v < 0) (w : World) : Calls Tryz.prog 49 #[.int .i64 v] w (PutPost [] (intL v) w) := by
  obtain ⟨ip, hi, hz0, hz1, hz2⟩ := info_parts Tryz.infoU8
  obtain ⟨v0, v1⟩ := hv
  go_enter Tryz.func49, Tryz.ntmps49
  go_wp2_with fail
  rw [zig_neg v hs]
  have hz64 := Lib.zigzag_lt v0 v1
  have HU : Hid ((Lib.uvarint (Lib.zigzag v)).length ≤ 10) := Lib.uvarint_length64 hz64
  obtain ⟨z, hz⟩ : ∃ z, Lib.zigzag v = z := ⟨_, rfl⟩
  have HZG := hid hz
  rw [hz] at hz64 HU ⊢
  clear hz
  go_loopw [4, 3] (fun s u wr => ∃ (acc : List UInt8) (n x q : Nat) (ao : Option Addr), x ≤ z ∧ n ≤ 10 ∧ s = .slice ao n q ∧ u = .int .u64 x ∧ Hid (acc.length = n ∧ PutSt wr w.heap.size (.slice ao n q) acc ∧ Lib.uvarint z = acc ++ Lib.uvarint x ∧ Keeps [] w wr)) (fun _ u _ => (intOf u).toNat)
  case atStart => exact ⟨[], 0, z, 0, none, Nat.le_refl _, by omega, rfl, rfl, rfl, .inr ⟨none, rfl, rfl, .inl ⟨rfl, none, 0, rfl⟩⟩, rfl, Keeps.refl [] w⟩
  case round =>
    obtain ⟨acc, n, x, q, ao, hxz, hnb, rfl, rfl, HW⟩ := hrel
    have i0 : (0 : Int) ≤ (x : Int) := Int.natCast_nonneg _
    have HZ : Hid (w.heap.size ≤ wr.heap.size) := HW.out.2.2.2.size
    have HN : Hid (acc.length = n) := HW.out.1
    have hn63 : n + 1 ≤ 140737488355328 := by omega
    by_cases hlt : 128 ≤ x
    · have hlt' : (128 : Int) ≤ (x : Int) := by omega
      have hx64 : x < 18446744073709551616 := by omega
      go_wp2_with (at_builtin; go_must (refine wpList_put1 _ (by rfl) _ _ (by rfl) w.heap.size ip hi hz0 hz1 hz2 (.slice ao n q) (by rfl) acc n HN.out (HW.out.2.1.k (by exact Keeps.K)) wr.heap.size (by rfl) ((x % 128 + 128).toUInt8) _ (by rw [byte_of _ (by omega)]; omega) 5 (0, 0) (heap_alloc_new _ _) hn63 (Nat.le_trans HZ.out (by simp)) ?_; intro a4 q4 w4 ho4 hk4))
      have HB := Lib.uvarint_big (by omega : 128 ≤ x)
      have HL := HU.out
      rw [HW.out.2.2.1, HB] at HL
      simp only [List.length_append, List.length_cons] at HL
      have HP : 1 ≤ (Lib.uvarint (x / 128)).length := Lib.uvarint_pos _
      have hn0 := HN.out
      refine ⟨⟨acc ++ [(x % 128 + 128).toUInt8], n + 1, x / 128, q4, a4, by omega, by omega, rfl, by simp, ⟨by simp; omega, ?_, ?_, ?_⟩⟩, by simp [intOf]; omega⟩
      · refine .inl ?_
        have hl : (acc ++ [(x % 128 + 128).toUInt8]).length = n + 1 := by simp; omega
        rw [hl]
        exact ho4.out
      · rw [HW.out.2.2.1, HB]; simp
      · exact hk4.out w (Nat.le_refl _) (by have kk := HW.out.2.2.2; exact Keeps.K)
    · have hge : (x : Int) < 128 := by omega
      go_wp2_with (at_builtin; go_must (refine wpList_put1 _ (by rfl) _ _ (by rfl) w.heap.size ip hi hz0 hz1 hz2 (.slice ao n q) (by rfl) acc n HN.out (HW.out.2.1.k (by exact Keeps.K)) wr.heap.size (by rfl) (x.toUInt8) _ (by rw [byte_of _ (by omega)]) 5 (0, 0) (heap_alloc_new _ _) hn63 (Nat.le_trans HZ.out (by simp)) ?_; intro a4 q4 w4 ho4 hk4))
      go_ret
      have HB := Lib.uvarint_small (by omega : x < 128)
      have E : Hid (intL v = acc ++ [x.toUInt8]) := by show _ = _; unfold intL; rw [HZG.out, HW.out.2.2.1, HB]
      have hl : ([] ++ (acc ++ [x.toUInt8])).length = n + 1 := by have := HN.out; simp at this ⊢; omega
      unfold PutPost
      rw [E.out]
      refine ⟨a4, q4, by rw [hl]; rfl, ?_, hk4.out w (Nat.le_refl _) (by have kk := HW.out.2.2.2; exact Keeps.K)⟩
      rw [hl, List.nil_append]
      exact ho4.out

theorem r3Int_any (v : Int) (hv : I64 v) (w : World) : Calls Tryz.prog 49 #[.int .i64 v] w (PutPost [] (intL v) w) := by
  by_cases hs : v < 0
  · exact r3Int_neg v hv hs w
  · exact r3Int_pos v hv hs w

theorem wpList_putRow {ops : Array Oper} {rest : List Oper} {o : Oper} {a : Act} {Q : Exit → Act → World → Prop} (w : World) (hgd : o.guard = none) (s x : Operand)
    (ho : o.op = .call { callee := .builtin .append, args := #[s, x], argTypes := #[36, 36] })
    (base : Nat) (i : TypeInfo) (hi : Tryz.prog.info? 5 = some i) (hz : i.zero = some (.int .u8 0)) (hsize : i.size = 1) (hby : i.bytes = 1)
    (v : Value) (hs : a.eval s = v) (bs : List UInt8) (n : Nat) (hn : bs.length = n) (hown : w.ownsRow base 5 1 v n (u8s bs)) (y : Value) (hx : a.eval x = y) (cs : List UInt8) (hr : Reads w 1 y cs.length (u8s cs))
    (hbytes : n + cs.length ≤ 140737488355328) (hbase : base ≤ w.heap.size)
    (h : ∀ a' c' w', Hid (w'.ownsRow base 5 1 (.slice a' (n + cs.length) c') (n + cs.length) (u8s (bs ++ cs))) → Hid (∀ w0 : World, w0.heap.size ≤ base → Keeps [] w0 w → Keeps [] w0 w') → wpList Tryz.prog ops Q rest (a.put o.dst (.slice a' (n + cs.length) c')) w') : wpList Tryz.prog ops Q (o :: rest) a w := by
  subst hn
  refine wpList_append_reads w hgd s x 36 ho base 5 i (.int .u8 0) 1 1 Tryz.underlying36 hi hz hsize hby rfl (by decide) v hs bs.length (u8s bs) hown y hx cs.length (u8s cs) hr (u8s_one _) (by omega) (le_maxLen (by omega)) hbase fun a' c' w' g1 g2 _ _ => ?_
  refine h a' c' w' (by show w'.ownsRow _ _ _ _ _ _; rw [u8s_snoc]; exact g1.out) fun w0 hw0 k0 => ?_
  exact k0.trans (Keeps.ofGrown (F := ownB v) g2.out (fun k hk => by rw [mem_ownB]; exact hk)) (fun k hk hm => by have := (ownB_ge hown k hm).1; omega)

set_option maxRecDepth 100000 in
set_option maxHeartbeats 1600000 in
theorem r3Text_any (s : ByteArray) (w : World) (hs : s.size ≤ 1000000) : Calls Tryz.prog 68 #[.string s] w (PutPost [] (textL s) w) := by
  obtain ⟨ip, hi, hz0, hz1, hz2⟩ := info_parts Tryz.infoU8
  have hI : I64 (s.size : Int) := ⟨by omega, by omega⟩
  have HI := intL_len hI
  go_enter Tryz.func68, Tryz.ntmps68
  go_wp2_with fail
  refine (r3Int_any s.size hI _).mono ?_
  rintro e w1 ⟨a1, q1, rfl, h1, h2⟩
  rw [List.nil_append] at h1 ⊢
  have H1 := hid h1
  have H2 := hid h2
  have HE : Hid (w.heap.size ≤ w1.heap.size) := H2.out.size
  obtain ⟨l1, hl1⟩ : ∃ l1, intL (s.size : Int) = l1 := ⟨_, rfl⟩
  rw [hl1] at H1 HI ⊢
  have HL := hid hl1
  clear h1 h2 hl1
  go_wp2_with (at_builtin; go_must (refine wpList_putStr _ (by rfl) _ _ (by rfl) w.heap.size ip hi hz0 hz1 hz2 (.slice a1 l1.length q1) (by rfl) l1 l1.length rfl H1.out s (by rfl) (by omega) HE.out ?_; intro a4 q4 w4 ho4 hk4))
  go_ret
  have e : [] ++ textL s = l1 ++ s.data.toList := by rw [← HL.out]; rfl
  have hl : ([] ++ textL s).length = l1.length + s.size := by rw [e, List.length_append]; rfl
  refine ⟨a4, q4, by rw [hl]; rfl, ?_, hk4.out w (Nat.le_refl _) H2.out⟩
  rw [hl, e]
  exact ho4.out

set_option maxRecDepth 100000 in
set_option maxHeartbeats 1600000 in
theorem r5Put_any (v : ValD) (w : World) (hs : v.s.size ≤ 1000000) (hk : I64 v.kind) (hv : I64 v.n) : Calls Tryz.prog 50 #[valV v] w (PutPost [] (putL v) w) := by
  obtain ⟨ip, hi, hz0, hz1, hz2⟩ := info_parts Tryz.infoU8
  obtain ⟨k, m, s⟩ := v
  have HK := hid hk
  have HV := hid hv
  have lk := intL_len hk
  have lv := intL_len hv
  have ls : (textL s).length ≤ 1000010 := by
    have := intL_len (show I64 (s.size : Int) from ⟨by omega, by dsimp only at hs; omega⟩)
    unfold textL
    have e : s.data.toList.length = s.size := by rw [Array.length_toList]; rfl
    dsimp only at hs ⊢
    rw [List.length_append, e]
    omega
  clear hk hv
  unfold valV
  dsimp only at hs lk lv
  go_enter Tryz.func50, Tryz.ntmps50
  go_wp2_with fail
  refine Plan.wp_region_plan (fun wx => wx.cell? ⟨w.heap.size, 0, none⟩ = some (.int .i64 k) ∧ wx.cell? ⟨w.heap.size, 1, none⟩ = some (.int .i64 m) ∧ wx.cell? ⟨w.heap.size, 2, none⟩ = some (.string s)) 5 [(true, 0), (true, 1), (true, 3), (true, 4), (false, 2)] (by kernel_rfl) (by as_aux_lemma => kernel_rfl) (by kernel_rfl) (fun _ _ _ _ _ h => h) ?_ (fun hS => ?_)
  (· go_simp)
  simp only [Plan.pick, List.append_eq, List.cons_append, List.nil_append, Plan.g1, Plan.g2, Option.getD_some, List.drop_succ_cons, List.drop_zero]
  iterate 4 (first | refine Plan.tA ?_ | refine Plan.tY ?_ | refine Plan.pN ?_ | refine Plan.pU ?_ | fail)
  refine Plan.step ?_
  go_wp2_with fail
  refine (r3Int_any k HK.out _).mono ?_
  rintro e w1 ⟨a1, q1, rfl, h1, h2⟩
  rw [List.nil_append] at h1 ⊢
  have f0 : w1.cell? ⟨w.heap.size, 0, none⟩ = some (.int .i64 k) := h2.cellSome (by go_simp) (by simp)
  have f1 : w1.cell? ⟨w.heap.size, 1, none⟩ = some (.int .i64 m) := h2.cellSome (by go_simp) (by simp)
  have f2 : w1.cell? ⟨w.heap.size, 2, none⟩ = some (.string s) := h2.cellSome (by go_simp) (by simp)
  have H1 : Hid (w1.ownsRow (w.heap.size + 1) 5 1 (.slice a1 (intL k).length q1) (intL k).length (u8s (intL k))) := (by simpa using h1 : w1.ownsRow (w.heap.size + 1) 5 1 _ _ _)
  have H2 : Hid (Keeps [] (w.alloc (.cells #[.int .i64 k, .int .i64 m, .string s] 32)) w1) := Keeps.trans (by exact Keeps.K) h2 (fun _ _ h => h)
  clear h1 h2 hS
  go_wp2_with fail
  refine ⟨?_, ?_⟩
  (· go_simp)
  refine Plan.fin ?_
  go_wp2_with fail
  refine (r3Int_any m HV.out _).mono ?_
  rintro e w2 ⟨a2, q2, rfl, h1, h2⟩
  rw [List.nil_append] at h1 ⊢
  have g2 : w2.cell? ⟨w.heap.size, 2, none⟩ = some (.string s) := h2.cellSome f2 (by simp)
  have J1 : Hid (w2.ownsRow (w.heap.size + 1) 5 1 (.slice a1 (intL k).length q1) (intL k).length (u8s (intL k))) := ownsRow_keeps H1.out h2 (fun _ _ h => by cases h)
  have J2 : Hid (Reads w2 1 (.slice a2 (intL m).length q2) (intL m).length (u8s (intL m))) := Reads.ofOwn h1
  have K2 : Hid (Keeps [] (w.alloc (.cells #[.int .i64 k, .int .i64 m, .string s] 32)) w2) := Keeps.trans H2.out h2 (fun _ _ h => h)
  have HB2 : Hid (w.heap.size + 1 ≤ w2.heap.size) := hid (by have := K2.out.size; simpa using this)
  clear h1 h2 f0 f1 f2
  go_wp2_with (at_builtin; go_must (refine wpList_putRow _ (by rfl) _ _ (by rfl) (w.heap.size + 1) ip hi hz0 hz1 hz2 (.slice a1 (intL k).length q1) (by rfl) (intL k) (intL k).length rfl J1.out (.slice a2 (intL m).length q2) (by rfl) (intL m) J2.out (by omega) HB2.out ?_; intro a4 q4 w4 ho4 hk4; have hK4 := hk4.out (w.alloc (.cells #[.int .i64 k, .int .i64 m, .string s] 32)) (by simp) K2.out; have y2 : w4.cell? ⟨w.heap.size, 2, none⟩ = some (.string s) := hK4.cellSome (by go_simp) (by simp); have HK4 := hid hK4; clear hK4))
  refine (r3Text_any s _ hs).mono ?_
  rintro e w5 ⟨a5, q5, rfl, h1, h2⟩
  rw [List.nil_append] at h1 ⊢
  have J4 : Hid (w5.ownsRow (w.heap.size + 1) 5 1 (.slice a4 ((intL k).length + (intL m).length) q4) ((intL k).length + (intL m).length) (u8s (intL k ++ intL m))) := ownsRow_keeps ho4.out h2 (fun _ _ h => by cases h)
  have J5 : Hid (Reads w5 1 (.slice a5 (textL s).length q5) (textL s).length (u8s (textL s))) := Reads.ofOwn h1
  have K5 : Hid (Keeps [] (w.alloc (.cells #[.int .i64 k, .int .i64 m, .string s] 32)) w5) := Keeps.trans HK4.out h2 (fun _ _ h => h)
  have HB5 : Hid (w.heap.size + 1 ≤ w5.heap.size) := hid (by have := K5.out.size; simpa using this)
  clear h1 h2
  go_wp2_with (at_builtin; go_must (refine wpList_putRow _ (by rfl) _ _ (by rfl) (w.heap.size + 1) ip hi hz0 hz1 hz2 (.slice a4 ((intL k).length + (intL m).length) q4) (by rfl) (intL k ++ intL m) ((intL k).length + (intL m).length) (by simp) J4.out (.slice a5 (textL s).length q5) (by rfl) (textL s) J5.out (by omega) HB5.out ?_; intro a6 q6 w6 ho6 hk6))
  go_ret
  have hl : ([] ++ putL ⟨k, m, s⟩).length = (intL k).length + (intL m).length + (textL s).length := by unfold putL; simp; omega
  have K6 := hk6.out (w.alloc (.cells #[.int .i64 k, .int .i64 m, .string s] 32)) (by simp) K5.out
  unfold PutPost
  rw [hl]
  exact ⟨a6, q6, rfl, ownsRow_base ho6.out (by omega), Keeps.trans (by exact Keeps.K) K6 (fun _ _ h => h)⟩

end Go.Proofs.YtnjdepojmnniaaaGreatDoor
