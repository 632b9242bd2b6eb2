/- Joined of WireC, CmD. -/
import Derived.Test.YtbbdmmhpbeleoaaDoorQ14
import Derived.Test.YtbbdmmhpbeleoaaDoorQ02

set_option linter.unusedSimpArgs false
set_option linter.unusedVariables false

/- The document's bytes: Int, Text, a value's. -/
namespace Go.Proofs.YtbbdmmhpbeleoaaDoor
open Go Go.RowKit

theorem zig_pos (v : Int) (h : 0 ≤ v) : v * 2 = ((Lib.zigzag v : Nat) : Int) := (Lib.zigzag_nonneg h).symm
theorem zig_neg (v : Int) (h : v < 0) : -(v + 1) * 2 + 1 = ((Lib.zigzag v : Nat) : Int) := by
  unfold Lib.zigzag
  rw [if_neg (by omega)]
  omega

set_option maxRecDepth 100000 in
set_option maxHeartbeats 3200000 in
theorem r3Int_pos (v : Int) (hv : I64 v) (hs : ¬ v < 0) (w : World) : Calls Tryd.prog 27 #[.int .i64 v] w (PutPost [] (intL v) w) := by
  obtain ⟨ip, hi, hz0, hz1, hz2⟩ := info_parts Tryd.infoU8
  obtain ⟨v0, v1⟩ := hv
  go_enter Tryd.func27, Tryd.ntmps27
  go_wp2_with fail
  rw [zig_pos v (by omega)]
  have hz64 := Lib.zigzag_lt v0 v1
  have HU : Hid ((Lib.uvarint (Lib.zigzag v)).length ≤ 10) := Lib.uvarint_length64 hz64
  obtain ⟨z, hz⟩ : ∃ z, Lib.zigzag v = z := ⟨_, rfl⟩
  have HZG := hid hz
  rw [hz] at hz64 HU ⊢
  clear hz
  go_loopw [4, 3] (fun s u wr => ∃ (acc : List UInt8) (n x q : Nat) (ao : Option Addr), x ≤ z ∧ n ≤ 10 ∧ s = .slice ao n q ∧ u = .int .u64 x ∧ Hid (acc.length = n ∧ PutSt wr w.heap.size (.slice ao n q) acc ∧ Lib.uvarint z = acc ++ Lib.uvarint x ∧ Keeps [] w wr)) (fun _ u _ => (intOf u).toNat)
  case atStart => exact ⟨[], 0, z, 0, none, Nat.le_refl _, by omega, rfl, rfl, rfl, .inr ⟨none, rfl, rfl, .inl ⟨rfl, none, 0, rfl⟩⟩, rfl, Keeps.refl [] w⟩
  case round =>
    obtain ⟨acc, n, x, q, ao, hxz, hnb, rfl, rfl, HW⟩ := hrel
    have i0 : (0 : Int) ≤ (x : Int) := Int.natCast_nonneg _
    have HZ : Hid (w.heap.size ≤ wr.heap.size) := HW.out.2.2.2.size
    have HN : Hid (acc.length = n) := HW.out.1
    have hn63 : n + 1 ≤ 140737488355328 := by omega
    by_cases hlt : 128 ≤ x
    · have hlt' : (128 : Int) ≤ (x : Int) := by omega
      have hx64 : x < 18446744073709551616 := by omega
      go_wp2_with (at_builtin; go_must (refine wpList_put1 _ (by rfl) _ _ (by rfl) w.heap.size ip hi hz0 hz1 hz2 (.slice ao n q) (by rfl) acc n HN.out (HW.out.2.1.k (by exact Keeps.K)) wr.heap.size (by rfl) ((x % 128 + 128).toUInt8) _ (by rw [byte_of _ (by omega)]; omega) 5 (0, 0) (heap_alloc_new _ _) hn63 (Nat.le_trans HZ.out (by simp)) ?_; intro a4 q4 w4 ho4 hk4))
      have HB := Lib.uvarint_big (by omega : 128 ≤ x)
      have HL := HU.out
      rw [HW.out.2.2.1, HB] at HL
      simp only [List.length_append, List.length_cons] at HL
      have HP : 1 ≤ (Lib.uvarint (x / 128)).length := Lib.uvarint_pos _
      have hn0 := HN.out
      refine ⟨⟨acc ++ [(x % 128 + 128).toUInt8], n + 1, x / 128, q4, a4, by omega, by omega, rfl, by simp, ⟨by simp; omega, ?_, ?_, ?_⟩⟩, by simp [intOf]; omega⟩
      · refine .inl ?_
        have hl : (acc ++ [(x % 128 + 128).toUInt8]).length = n + 1 := by simp; omega
        rw [hl]
        exact ho4.out
      · rw [HW.out.2.2.1, HB]; simp
      · exact hk4.out w (Nat.le_refl _) (by have kk := HW.out.2.2.2; exact Keeps.K)
    · have hge : (x : Int) < 128 := by omega
      go_wp2_with (at_builtin; go_must (refine wpList_put1 _ (by rfl) _ _ (by rfl) w.heap.size ip hi hz0 hz1 hz2 (.slice ao n q) (by rfl) acc n HN.out (HW.out.2.1.k (by exact Keeps.K)) wr.heap.size (by rfl) (x.toUInt8) _ (by rw [byte_of _ (by omega)]) 5 (0, 0) (heap_alloc_new _ _) hn63 (Nat.le_trans HZ.out (by simp)) ?_; intro a4 q4 w4 ho4 hk4))
      go_ret
      have HB := Lib.uvarint_small (by omega : x < 128)
      have E : Hid (intL v = acc ++ [x.toUInt8]) := by show _ = _; unfold intL; rw [HZG.out, HW.out.2.2.1, HB]
      have hl : ([] ++ (acc ++ [x.toUInt8])).length = n + 1 := by have := HN.out; simp at this ⊢; omega
      unfold PutPost
      rw [E.out]
      refine ⟨a4, q4, by rw [hl]; rfl, ?_, hk4.out w (Nat.le_refl _) (by have kk := HW.out.2.2.2; exact Keeps.K)⟩
      rw [hl, List.nil_append]
      exact ho4.out

set_option maxRecDepth 100000 in
set_option maxHeartbeats 3200000 in
theorem r3Int_neg (v : Int) (hv : I64 v) (hs : v < 0) (w : World) : Calls Tryd.prog 27 #[.int .i64 v] w (PutPost [] (intL v) w) := by
  obtain ⟨ip, hi, hz0, hz1, hz2⟩ := info_parts Tryd.infoU8
  obtain ⟨v0, v1⟩ := hv
  go_enter Tryd.func27, Tryd.ntmps27
  go_wp2_with fail
  rw [zig_neg v hs]
  have hz64 := Lib.zigzag_lt v0 v1
  have HU : Hid ((Lib.uvarint (Lib.zigzag v)).length ≤ 10) := Lib.uvarint_length64 hz64
  obtain ⟨z, hz⟩ : ∃ z, Lib.zigzag v = z := ⟨_, rfl⟩
  have HZG := hid hz
  rw [hz] at hz64 HU ⊢
  clear hz
  go_loopw [4, 3] (fun s u wr => ∃ (acc : List UInt8) (n x q : Nat) (ao : Option Addr), x ≤ z ∧ n ≤ 10 ∧ s = .slice ao n q ∧ u = .int .u64 x ∧ Hid (acc.length = n ∧ PutSt wr w.heap.size (.slice ao n q) acc ∧ Lib.uvarint z = acc ++ Lib.uvarint x ∧ Keeps [] w wr)) (fun _ u _ => (intOf u).toNat)
  case atStart => exact ⟨[], 0, z, 0, none, Nat.le_refl _, by omega, rfl, rfl, rfl, .inr ⟨none, rfl, rfl, .inl ⟨rfl, none, 0, rfl⟩⟩, rfl, Keeps.refl [] w⟩
  case round =>
    obtain ⟨acc, n, x, q, ao, hxz, hnb, rfl, rfl, HW⟩ := hrel
    have i0 : (0 : Int) ≤ (x : Int) := Int.natCast_nonneg _
    have HZ : Hid (w.heap.size ≤ wr.heap.size) := HW.out.2.2.2.size
    have HN : Hid (acc.length = n) := HW.out.1
    have hn63 : n + 1 ≤ 140737488355328 := by omega
    by_cases hlt : 128 ≤ x
    · have hlt' : (128 : Int) ≤ (x : Int) := by omega
      have hx64 : x < 18446744073709551616 := by omega
      go_wp2_with (at_builtin; go_must (refine wpList_put1 _ (by rfl) _ _ (by rfl) w.heap.size ip hi hz0 hz1 hz2 (.slice ao n q) (by rfl) acc n HN.out (HW.out.2.1.k (by exact Keeps.K)) wr.heap.size (by rfl) ((x % 128 + 128).toUInt8) _ (by rw [byte_of _ (by omega)]; omega) 5 (0, 0) (heap_alloc_new _ _) hn63 (Nat.le_trans HZ.out (by simp)) ?_; intro a4 q4 w4 ho4 hk4))
      have HB := Lib.uvarint_big (by omega : 128 ≤ x)
      have HL := HU.out
      rw [HW.out.2.2.1, HB] at HL
      simp only [List.length_append, List.length_cons] at HL
      have HP : 1 ≤ (Lib.uvarint (x / 128)).length := Lib.uvarint_pos _
      have hn0 := HN.out
      refine ⟨⟨acc ++ [(x % 128 + 128).toUInt8], n + 1, x / 128, q4, a4, by omega, by omega, rfl, by simp, ⟨by simp; omega, ?_, ?_, ?_⟩⟩, by simp [intOf]; omega⟩
      · refine .inl ?_
        have hl : (acc ++ [(x % 128 + 128).toUInt8]).length = n + 1 := by simp; omega
        rw [hl]
        exact ho4.out
      · rw [HW.out.2.2.1, HB]; simp
      · exact hk4.out w (Nat.le_refl _) (by have kk := HW.out.2.2.2; exact Keeps.K)
    · have hge : (x : Int) < 128 := by omega
      go_wp2_with (at_builtin; go_must (refine wpList_put1 _ (by rfl) _ _ (by rfl) w.heap.size ip hi hz0 hz1 hz2 (.slice ao n q) (by rfl) acc n HN.out (HW.out.2.1.k (by exact Keeps.K)) wr.heap.size (by rfl) (x.toUInt8) _ (by rw [byte_of _ (by omega)]) 5 (0, 0) (heap_alloc_new _ _) hn63 (Nat.le_trans HZ.out (by simp)) ?_; intro a4 q4 w4 ho4 hk4))
      go_ret
      have HB := Lib.uvarint_small (by omega : x < 128)
      have E : Hid (intL v = acc ++ [x.toUInt8]) := by show _ = _; unfold intL; rw [HZG.out, HW.out.2.2.1, HB]
      have hl : ([] ++ (acc ++ [x.toUInt8])).length = n + 1 := by have := HN.out; simp at this ⊢; omega
      unfold PutPost
      rw [E.out]
      refine ⟨a4, q4, by rw [hl]; rfl, ?_, hk4.out w (Nat.le_refl _) (by have kk := HW.out.2.2.2; exact Keeps.K)⟩
      rw [hl, List.nil_append]
      exact ho4.out

theorem r3Int_any (v : Int) (hv : I64 v) (w : World) : Calls Tryd.prog 27 #[.int .i64 v] w (PutPost [] (intL v) w) := by
  by_cases hs : v < 0
  · exact r3Int_neg v hv hs w
  · exact r3Int_pos v hv hs w

theorem wpList_putRow {ops : Array Oper} {rest : List Oper} {o : Oper} {a : Act} {Q : Exit → Act → World → Prop} (w : World) (hgd : o.guard = none) (s x : Operand)
    (ho : o.op = .call { callee := .builtin .append, args := #[s, x], argTypes := #[29, 29] })
    (base : Nat) (i : TypeInfo) (hi : Tryd.prog.info? 5 = some i) (hz : i.zero = some (.int .u8 0)) (hsize : i.size = 1) (hby : i.bytes = 1)
    (v : Value) (hs : a.eval s = v) (bs : List UInt8) (n : Nat) (hn : bs.length = n) (hown : w.ownsRow base 5 1 v n (u8s bs)) (y : Value) (hx : a.eval x = y) (cs : List UInt8) (hr : Reads w 1 y cs.length (u8s cs))
    (hbytes : n + cs.length ≤ 140737488355328) (hbase : base ≤ w.heap.size)
    (h : ∀ a' c' w', Hid (w'.ownsRow base 5 1 (.slice a' (n + cs.length) c') (n + cs.length) (u8s (bs ++ cs))) → Hid (∀ w0 : World, w0.heap.size ≤ base → Keeps [] w0 w → Keeps [] w0 w') → wpList Tryd.prog ops Q rest (a.put o.dst (.slice a' (n + cs.length) c')) w') : wpList Tryd.prog ops Q (o :: rest) a w := by
  subst hn
  refine wpList_append_reads w hgd s x 29 ho base 5 i (.int .u8 0) 1 1 Tryd.underlying29 hi hz hsize hby rfl (by decide) v hs bs.length (u8s bs) hown y hx cs.length (u8s cs) hr (u8s_one _) (by omega) (le_maxLen (by omega)) hbase fun a' c' w' g1 g2 _ _ => ?_
  refine h a' c' w' (by show w'.ownsRow _ _ _ _ _ _; rw [u8s_snoc]; exact g1.out) fun w0 hw0 k0 => ?_
  exact k0.trans (Keeps.ofGrown (F := ownB v) g2.out (fun k hk => by rw [mem_ownB]; exact hk)) (fun k hk hm => by have := (ownB_ge hown k hm).1; omega)

set_option maxRecDepth 100000 in
set_option maxHeartbeats 1600000 in
theorem r3Text_any (s : ByteArray) (w : World) (hs : s.size ≤ 1000000) : Calls Tryd.prog 45 #[.string s] w (PutPost [] (textL s) w) := by
  obtain ⟨ip, hi, hz0, hz1, hz2⟩ := info_parts Tryd.infoU8
  have hI : I64 (s.size : Int) := ⟨by omega, by omega⟩
  have HI := intL_len hI
  go_enter Tryd.func45, Tryd.ntmps45
  go_wp2_with fail
  refine (r3Int_any s.size hI _).mono ?_
  rintro e w1 ⟨a1, q1, rfl, h1, h2⟩
  rw [List.nil_append] at h1 ⊢
  have H1 := hid h1
  have H2 := hid h2
  have HE : Hid (w.heap.size ≤ w1.heap.size) := H2.out.size
  obtain ⟨l1, hl1⟩ : ∃ l1, intL (s.size : Int) = l1 := ⟨_, rfl⟩
  rw [hl1] at H1 HI ⊢
  have HL := hid hl1
  clear h1 h2 hl1
  go_wp2_with (at_builtin; go_must (refine wpList_putStr _ (by rfl) _ _ (by rfl) w.heap.size ip hi hz0 hz1 hz2 (.slice a1 l1.length q1) (by rfl) l1 l1.length rfl H1.out s (by rfl) (by omega) HE.out ?_; intro a4 q4 w4 ho4 hk4))
  go_ret
  have e : [] ++ textL s = l1 ++ s.data.toList := by rw [← HL.out]; rfl
  have hl : ([] ++ textL s).length = l1.length + s.size := by rw [e, List.length_append]; rfl
  refine ⟨a4, q4, by rw [hl]; rfl, ?_, hk4.out w (Nat.le_refl _) H2.out⟩
  rw [hl, e]
  exact ho4.out

set_option maxRecDepth 100000 in
set_option maxHeartbeats 1600000 in
theorem r5Put_any (v : ValD) (w : World) (hs : v.s.size ≤ 1000000) (hk : I64 v.kind) (hv : I64 v.n) : Calls Tryd.prog 28 #[valV v] w (PutPost [] (putL v) w) := by
  obtain ⟨ip, hi, hz0, hz1, hz2⟩ := info_parts Tryd.infoU8
  obtain ⟨k, m, s⟩ := v
  have HK := hid hk
  have HV := hid hv
  have lk := intL_len hk
  have lv := intL_len hv
  have ls : (textL s).length ≤ 1000010 := by
    have := intL_len (show I64 (s.size : Int) from ⟨by omega, by dsimp only at hs; omega⟩)
    unfold textL
    have e : s.data.toList.length = s.size := by rw [Array.length_toList]; rfl
    dsimp only at hs ⊢
    rw [List.length_append, e]
    omega
  clear hk hv
  unfold valV
  dsimp only at hs lk lv
  go_enter Tryd.func28, Tryd.ntmps28
  go_wp2_with fail
  refine Plan.wp_region_plan (fun wx => wx.cell? ⟨w.heap.size, 0, none⟩ = some (.int .i64 k) ∧ wx.cell? ⟨w.heap.size, 1, none⟩ = some (.int .i64 m) ∧ wx.cell? ⟨w.heap.size, 2, none⟩ = some (.string s)) 5 [(true, 0), (true, 1), (true, 3), (true, 4), (false, 2)] (by kernel_rfl) (by as_aux_lemma => kernel_rfl) (by kernel_rfl) (fun _ _ _ _ _ h => h) ?_ (fun hS => ?_)
  (· go_simp)
  simp only [Plan.pick, List.append_eq, List.cons_append, List.nil_append, Plan.g1, Plan.g2, Option.getD_some, List.drop_succ_cons, List.drop_zero]
  iterate 4 (first | refine Plan.tA ?_ | refine Plan.tY ?_ | refine Plan.pN ?_ | refine Plan.pU ?_ | fail)
  refine Plan.step ?_
  go_wp2_with fail
  refine (r3Int_any k HK.out _).mono ?_
  rintro e w1 ⟨a1, q1, rfl, h1, h2⟩
  rw [List.nil_append] at h1 ⊢
  have f0 : w1.cell? ⟨w.heap.size, 0, none⟩ = some (.int .i64 k) := h2.cellSome (by go_simp) (by simp)
  have f1 : w1.cell? ⟨w.heap.size, 1, none⟩ = some (.int .i64 m) := h2.cellSome (by go_simp) (by simp)
  have f2 : w1.cell? ⟨w.heap.size, 2, none⟩ = some (.string s) := h2.cellSome (by go_simp) (by simp)
  have H1 : Hid (w1.ownsRow (w.heap.size + 1) 5 1 (.slice a1 (intL k).length q1) (intL k).length (u8s (intL k))) := (by simpa using h1 : w1.ownsRow (w.heap.size + 1) 5 1 _ _ _)
  have H2 : Hid (Keeps [] (w.alloc (.cells #[.int .i64 k, .int .i64 m, .string s] 24)) w1) := Keeps.trans (by exact Keeps.K) h2 (fun _ _ h => h)
  clear h1 h2 hS
  go_wp2_with fail
  refine ⟨?_, ?_⟩
  (· go_simp)
  refine Plan.fin ?_
  go_wp2_with fail
  refine (r3Int_any m HV.out _).mono ?_
  rintro e w2 ⟨a2, q2, rfl, h1, h2⟩
  rw [List.nil_append] at h1 ⊢
  have g2 : w2.cell? ⟨w.heap.size, 2, none⟩ = some (.string s) := h2.cellSome f2 (by simp)
  have J1 : Hid (w2.ownsRow (w.heap.size + 1) 5 1 (.slice a1 (intL k).length q1) (intL k).length (u8s (intL k))) := ownsRow_keeps H1.out h2 (fun _ _ h => by cases h)
  have J2 : Hid (Reads w2 1 (.slice a2 (intL m).length q2) (intL m).length (u8s (intL m))) := Reads.ofOwn h1
  have K2 : Hid (Keeps [] (w.alloc (.cells #[.int .i64 k, .int .i64 m, .string s] 24)) w2) := Keeps.trans H2.out h2 (fun _ _ h => h)
  have HB2 : Hid (w.heap.size + 1 ≤ w2.heap.size) := hid (by have := K2.out.size; simpa using this)
  clear h1 h2 f0 f1 f2
  go_wp2_with (at_builtin; go_must (refine wpList_putRow _ (by rfl) _ _ (by rfl) (w.heap.size + 1) ip hi hz0 hz1 hz2 (.slice a1 (intL k).length q1) (by rfl) (intL k) (intL k).length rfl J1.out (.slice a2 (intL m).length q2) (by rfl) (intL m) J2.out (by omega) HB2.out ?_; intro a4 q4 w4 ho4 hk4; have hK4 := hk4.out (w.alloc (.cells #[.int .i64 k, .int .i64 m, .string s] 24)) (by simp) K2.out; have y2 : w4.cell? ⟨w.heap.size, 2, none⟩ = some (.string s) := hK4.cellSome (by go_simp) (by simp); have HK4 := hid hK4; clear hK4))
  refine (r3Text_any s _ hs).mono ?_
  rintro e w5 ⟨a5, q5, rfl, h1, h2⟩
  rw [List.nil_append] at h1 ⊢
  have J4 : Hid (w5.ownsRow (w.heap.size + 1) 5 1 (.slice a4 ((intL k).length + (intL m).length) q4) ((intL k).length + (intL m).length) (u8s (intL k ++ intL m))) := ownsRow_keeps ho4.out h2 (fun _ _ h => by cases h)
  have J5 : Hid (Reads w5 1 (.slice a5 (textL s).length q5) (textL s).length (u8s (textL s))) := Reads.ofOwn h1
  have K5 : Hid (Keeps [] (w.alloc (.cells #[.int .i64 k, .int .i64 m, .string s] 24)) w5) := Keeps.trans HK4.out h2 (fun _ _ h => h)
  have HB5 : Hid (w.heap.size + 1 ≤ w5.heap.size) := hid (by have := K5.out.size; simpa using this)
  clear h1 h2
  go_wp2_with (at_builtin; go_must (refine wpList_putRow _ (by rfl) _ _ (by rfl) (w.heap.size + 1) ip hi hz0 hz1 hz2 (.slice a4 ((intL k).length + (intL m).length) q4) (by rfl) (intL k ++ intL m) ((intL k).length + (intL m).length) (by simp) J4.out (.slice a5 (textL s).length q5) (by rfl) (textL s) J5.out (by omega) HB5.out ?_; intro a6 q6 w6 ho6 hk6))
  go_ret
  have hl : ([] ++ putL ⟨k, m, s⟩).length = (intL k).length + (intL m).length + (textL s).length := by unfold putL; simp; omega
  have K6 := hk6.out (w.alloc (.cells #[.int .i64 k, .int .i64 m, .string s] 24)) (by simp) K5.out
  unfold PutPost
  rw [hl]
  exact ⟨a6, q6, rfl, ownsRow_base ho6.out (by omega), Keeps.trans (by exact Keeps.K) K6 (fun _ _ h => h)⟩

end Go.Proofs.YtbbdmmhpbeleoaaDoor

/- A command's bytes, as the program puts them. -/
namespace Go.Proofs.YtbbdmmhpbeleoaaDoor
open Go Go.RowKit

/-- A command whose numbers are int64s, whose texts are short. -/
structure CmdW (c : CmdD) : Prop where
  kind : I64 c.kind
  session : I64 c.session
  seq : I64 c.seq
  version : I64 c.version
  vkind : I64 c.value.kind
  vn : I64 c.value.n
  field : c.field.size ≤ 1000000
  vs : c.value.s.size ≤ 1000000
theorem PutPost.up {bs xs ys : List UInt8} {w wA : World} {e : Ending} {w' : World} (h : PutPost bs xs wA e w') (hk : Keeps [] w wA) (he : bs ++ xs = ys) : PutPost [] ys w e w' := by
  obtain ⟨a, q, h1, h2, h3⟩ := h
  subst he
  exact ⟨a, q, by rw [h1, List.nil_append], by rw [List.nil_append]; exact ownsRow_base h2 hk.size, hk.trans h3 (fun _ _ h => h)⟩

theorem PutPost.is {ys l : List UInt8} {w w' : World} {a : Option Addr} {q : Nat} (h : ys = l) (ho : w'.ownsRow w.heap.size 5 1 (.slice a l.length q) l.length (u8s l)) (hk : Keeps [] w w') : PutPost [] ys w (.returned (.slice a l.length q)) w' := by
  subst h
  exact ⟨a, q, rfl, ho, hk⟩
set_option maxRecDepth 100000 in
set_option maxHeartbeats 8000000 in
theorem cmPut_any (c : CmdD) (hc : CmdW c) (w : World) : Calls Tryd.prog 18 #[cmdV c] w (PutPost [] (putC c) w) := by
  obtain ⟨kd, se, sq, fd, vr, vk, vn, vs⟩ := c
  have HC := hid hc
  clear hc
  have lk := intL_len HC.out.kind
  have ls := intL_len HC.out.session
  have lq := intL_len HC.out.seq
  have lv := intL_len HC.out.version
  have hfd := HC.out.field
  have hvs := HC.out.vs
  dsimp only at lk ls lq lv hfd hvs
  unfold cmdV
  dsimp only
  go_enter Tryd.func18, Tryd.ntmps18
  go_wp2_with fail
  obtain ⟨wA, hwA⟩ : ∃ wA, w.alloc (.cells #[.int .i64 kd, .int .i64 se, .int .i64 sq, .string fd, .int .i64 vr, .int .i64 vk, .int .i64 vn, .string vs] 34) = wA := ⟨_, rfl⟩
  have KA : Hid (Keeps [] w wA) := by rw [← hwA]; exact Keeps.K
  have HA : Hid (wA.heap[w.heap.size]? = some (.cells #[.int .i64 kd, .int .i64 se, .int .i64 sq, .string fd, .int .i64 vr, .int .i64 vk, .int .i64 vn, .string vs] 34 (0, 0))) := by rw [← hwA]; exact heap_alloc_new _ _
  have HROW : Hid (∀ w', Keeps [] wA w' → w'.heap[w.heap.size]? = some (.cells #[.int .i64 kd, .int .i64 se, .int .i64 sq, .string fd, .int .i64 vr, .int .i64 vk, .int .i64 vn, .string vs] 34 (0, 0))) := fun w' g => (g.block _ (Array.getElem?_eq_some_iff.1 HA.out).1 (by simp)).trans HA.out
  rw [hwA]
  clear hwA
  refine (putInt_any none [] 0 kd HC.out.kind wA ⟨rfl, .inl ⟨rfl, none, 0, rfl⟩⟩ (by simp)).mono ?_
  intro e w1 hp
  obtain ⟨a1, q1, rfl, h1, h2⟩ := hp
  rw [List.nil_append] at h1 ⊢
  obtain ⟨l1, hl1⟩ : ∃ l1, Lib.uvarint (Lib.zigzag kd) = l1 := ⟨_, rfl⟩
  have HL1 : Hid (intL kd = l1) := hl1
  have hz1 : l1.length ≤ 10 := by rw [← hl1]; exact lk
  rw [hl1] at h1 ⊢
  have O1 : Hid (w1.ownsRow w.heap.size 5 1 (.slice a1 l1.length q1) l1.length (u8s l1)) := ownsRow_base h1 KA.out.size
  have K1 := hid h2
  obtain ⟨⟨x0, x1, x2, x3, x4, x5, x6, x7⟩, f0⟩ := blk8 (HROW.out _ h2)
  clear h1 h2 hl1
  by_cases k1 : kd = 1
  · subst k1
    go_wp2_with fail
    go_ret
    exact PutPost.is (by rw [← HL1.out]; unfold putC; simp) O1.out (KA.out.trans K1.out (fun _ _ h => h))
  · have n1 : (kd == 1) = false := by simp; exact k1
    go_wp2_with fail
    refine Plan.wp_region_plan (fun wx => wx.cell? ⟨w.heap.size, 1, none⟩ = some (.int .i64 se) ∧ wx.cell? ⟨w.heap.size, 2, none⟩ = some (.int .i64 sq)) 6 [(true, 0), (true, 1), (true, 2), (true, 4), (true, 5), (false, 3)] (by kernel_rfl) (by as_aux_lemma => kernel_rfl) (by kernel_rfl) (fun _ _ _ _ _ h => h) ?_ (fun hS => ?_)
    (· go_simp)
    simp only [Plan.pick, List.append_eq, List.cons_append, List.nil_append, Plan.g1, Plan.g2, Option.getD_some, List.drop_succ_cons, List.drop_zero]
    iterate 5 (first | refine Plan.tA ?_ | refine Plan.tY ?_ | refine Plan.pN ?_ | refine Plan.pU ?_ | fail)
    refine Plan.step ?_
    go_wp2_with fail
    refine (putInt_any a1 l1 q1 se HC.out.session _ (Reads.k0 (Reads.ofOwn O1.out) (by exact Keeps.K)) (by omega)).mono ?_
    intro e w2 hp
    obtain ⟨a2, q2, rfl, h1, h2⟩ := hp
    obtain ⟨l2, hl2⟩ : ∃ l2, l1 ++ Lib.uvarint (Lib.zigzag se) = l2 := ⟨_, rfl⟩
    have HL2 : Hid (intL kd ++ intL se = l2) := by show _ = _; rw [HL1.out]; exact hl2
    have hz2 : l2.length ≤ 20 := by rw [← hl2, List.length_append]; unfold intL at ls; omega
    rw [hl2] at h1 ⊢
    have K2 : Hid (Keeps [] wA w2) := K1.out.trans (Keeps.trans (G := []) (by exact Keeps.K) h2 (fun _ _ h => h)) (fun _ _ h => h)
    have O2 : Hid (w2.ownsRow w.heap.size 5 1 (.slice a2 l2.length q2) l2.length (u8s l2)) := ownsRow_base h1 (Nat.le_trans KA.out.size K1.out.size)
    clear h1 h2 hl2 hS x0 x1 x2 x3 x4 x5 x6 x7 f0
    obtain ⟨⟨x0, x1, x2, x3, x4, x5, x6, x7⟩, f0⟩ := blk8 (HROW.out _ K2.out)
    go_wp2_with fail
    refine ⟨?_, ?_⟩
    (· go_simp)
    refine Plan.fin ?_
    go_wp2_with fail
    refine (putInt_any a2 l2 q2 sq HC.out.seq _ (Reads.k0 (Reads.ofOwn O2.out) (by exact Keeps.K)) (by omega)).mono ?_
    intro e w3 hp
    obtain ⟨a3, q3, rfl, h1, h2⟩ := hp
    obtain ⟨l3, hl3⟩ : ∃ l3, l2 ++ Lib.uvarint (Lib.zigzag sq) = l3 := ⟨_, rfl⟩
    have HL3 : Hid (intL kd ++ intL se ++ intL sq = l3) := by show _ = _; rw [HL2.out]; exact hl3
    have hz3 : l3.length ≤ 30 := by rw [← hl3, List.length_append]; unfold intL at lq; omega
    rw [hl3] at h1 ⊢
    have K3 : Hid (Keeps [] wA w3) := K2.out.trans (Keeps.trans (G := []) (by exact Keeps.K) h2 (fun _ _ h => h)) (fun _ _ h => h)
    have O3 : Hid (w3.ownsRow w.heap.size 5 1 (.slice a3 l3.length q3) l3.length (u8s l3)) := ownsRow_base h1 (Nat.le_trans KA.out.size K2.out.size)
    clear h1 h2 hl3 x0 x1 x2 x3 x4 x5 x6 x7 f0
    obtain ⟨⟨x0, x1, x2, x3, x4, x5, x6, x7⟩, f0⟩ := blk8 (HROW.out _ K3.out)
    by_cases k2 : kd = 2
    · subst k2
      clear k1 n1
      go_wp2_with fail
      refine Plan.wp_region_plan (fun wx => (wx.cell? ⟨w.heap.size, 3, none⟩ = some (.string fd) ∧ wx.cell? ⟨w.heap.size, 4, none⟩ = some (.int .i64 vr)) ∧ wx.cell? ⟨w.heap.size, 5, none⟩ = some (.int .i64 vk) ∧ wx.cell? ⟨w.heap.size, 6, none⟩ = some (.int .i64 vn) ∧ wx.cell? ⟨w.heap.size, 7, none⟩ = some (.string vs)) 9 [(true, 0), (true, 1), (true, 2), (true, 4), (true, 5), (true, 7), (true, 8), (false, 3), (false, 6)] (by kernel_rfl) (by as_aux_lemma => kernel_rfl) (by kernel_rfl) (fun _ _ _ _ _ h => h) ?_ (fun hS => ?_)
      (· go_simp)
      simp only [Plan.pick, List.append_eq, List.cons_append, List.nil_append, Plan.g1, Plan.g2, Option.getD_some, List.drop_succ_cons, List.drop_zero]
      iterate 7 (first | refine Plan.tA ?_ | refine Plan.tY ?_ | refine Plan.pN ?_ | refine Plan.pU ?_ | fail)
      refine Plan.step ?_
      go_wp2_with fail
      refine (putText_any a3 l3 l3.length rfl q3 fd _ (Reads.k0 (Reads.ofOwn O3.out) (by exact Keeps.K)) (by omega) hfd).mono ?_
      intro e w4 hp
      obtain ⟨a4, q4, rfl, h1, h2⟩ := hp
      obtain ⟨l4, hl4⟩ : ∃ l4, l3 ++ textL fd = l4 := ⟨_, rfl⟩
      rw [hl4] at h1 ⊢
      have HL4 := hid hl4
      have hz4 : l4.length ≤ 1000050 := by
        have := intL_len (show I64 (fd.size : Int) from ⟨by omega, by omega⟩)
        have e : fd.data.toList.length = fd.size := by rw [Array.length_toList]; rfl
        rw [← hl4, List.length_append]
        unfold textL
        rw [List.length_append, e]
        omega
      have O4 : Hid (w4.ownsRow w.heap.size 5 1 (.slice a4 l4.length q4) l4.length (u8s l4)) := ownsRow_base h1 (Nat.le_trans KA.out.size K3.out.size)
      have K4 : Hid (Keeps [] wA w4) := K3.out.trans (Keeps.trans (G := []) (by exact Keeps.K) h2 (fun _ _ h => h)) (fun _ _ h => h)
      clear h1 h2 hl4 hS x0 x1 x2 x3 x4 x5 x6 x7 f0
      obtain ⟨⟨x0, x1, x2, x3, x4, x5, x6, x7⟩, f0⟩ := blk8 (HROW.out _ K4.out)
      go_wp2_with fail
      refine ⟨?_, ?_⟩
      (· go_simp)
      refine Plan.step ?_
      go_wp2_with fail
      refine (putInt_any a4 l4 q4 vr HC.out.version _ (Reads.k0 (Reads.ofOwn O4.out) (by exact Keeps.K)) (by omega)).mono ?_
      intro e w5 hp
      obtain ⟨a5, q5, rfl, h1, h2⟩ := hp
      obtain ⟨l5, hl5⟩ : ∃ l5, l4 ++ Lib.uvarint (Lib.zigzag vr) = l5 := ⟨_, rfl⟩
      have HL5 : Hid (l4 ++ intL vr = l5) := hl5
      have hz5 : l5.length ≤ 1000060 := by rw [← hl5, List.length_append]; unfold intL at lv; omega
      rw [hl5] at h1 ⊢
      have K5 : Hid (Keeps [] wA w5) := K4.out.trans (Keeps.trans (G := []) (by exact Keeps.K) h2 (fun _ _ h => h)) (fun _ _ h => h)
      have O5 : Hid (w5.ownsRow w.heap.size 5 1 (.slice a5 l5.length q5) l5.length (u8s l5)) := ownsRow_base h1 (Nat.le_trans KA.out.size K4.out.size)
      clear h1 h2 hl5 x0 x1 x2 x3 x4 x5 x6 x7 f0
      obtain ⟨⟨x0, x1, x2, x3, x4, x5, x6, x7⟩, f0⟩ := blk8 (HROW.out _ K5.out)
      go_wp2_with fail
      refine ⟨?_, ?_⟩
      (· go_simp)
      refine Plan.fin ?_
      go_wp2_with fail
      refine (vPut_any a5 l5 l5.length rfl q5 ⟨vk, vn, vs⟩ _ (Reads.k0 (Reads.ofOwn O5.out) (by exact Keeps.K)) (by dsimp only; omega) hvs HC.out.vkind HC.out.vn).mono ?_
      intro e w6 hp
      obtain ⟨a6, q6, rfl, h1, h2⟩ := hp
      obtain ⟨l6, hl6⟩ : ∃ l6, l5 ++ putL ⟨vk, vn, vs⟩ = l6 := ⟨_, rfl⟩
      rw [hl6] at h1 ⊢
      have HL6 := hid hl6
      have O6 : Hid (w6.ownsRow w.heap.size 5 1 (.slice a6 l6.length q6) l6.length (u8s l6)) := ownsRow_base h1 (Nat.le_trans KA.out.size K5.out.size)
      have K6 : Hid (Keeps [] w w6) := KA.out.trans (K5.out.trans (Keeps.trans (G := []) (by exact Keeps.K) h2 (fun _ _ h => h)) (fun _ _ h => h)) (fun _ _ h => h)
      clear h1 h2 hl6
      go_wp2_with fail
      go_ret
      exact PutPost.is (by rw [← HL6.out, ← HL5.out, ← HL4.out, ← HL3.out]; unfold putC; simp) O6.out K6.out
    · have n2 : (kd == 2) = false := by simp; exact k2
      by_cases k4 : kd = 4
      · subst k4
        clear k1 n1 k2 n2
        go_wp2_with fail
        refine (putText_any a3 l3 l3.length rfl q3 fd _ (Reads.k0 (Reads.ofOwn O3.out) (by exact Keeps.K)) (by omega) hfd).mono ?_
        intro e w4 hp
        obtain ⟨a4, q4, rfl, h1, h2⟩ := hp
        obtain ⟨l4, hl4⟩ : ∃ l4, l3 ++ textL fd = l4 := ⟨_, rfl⟩
        rw [hl4] at h1 ⊢
        have HL4 := hid hl4
        have O4 : Hid (w4.ownsRow w.heap.size 5 1 (.slice a4 l4.length q4) l4.length (u8s l4)) := ownsRow_base h1 (Nat.le_trans KA.out.size K3.out.size)
        have K4 : Hid (Keeps [] w w4) := KA.out.trans (K3.out.trans (Keeps.trans (G := []) (by exact Keeps.K) h2 (fun _ _ h => h)) (fun _ _ h => h)) (fun _ _ h => h)
        clear h1 h2 hl4
        go_wp2_with fail
        go_ret
        exact PutPost.is (by rw [← HL4.out, ← HL3.out]; unfold putC; simp) O4.out K4.out
      · have n4 : (kd == 4) = false := by simp; exact k4
        have HE : Hid (putC ⟨kd, se, sq, fd, vr, ⟨vk, vn, vs⟩⟩ = l3) := by
          show _ = _
          rw [← HL3.out]
          unfold putC
          simp [k1, k2, k4]
        clear k1 k2 k4
        go_wp2_with fail
        go_ret
        exact PutPost.is HE.out O3.out (KA.out.trans (K3.out.trans (G := []) (by exact Keeps.K) (fun _ _ h => h)) (fun _ _ h => h))

end Go.Proofs.YtbbdmmhpbeleoaaDoor
