/- Texts behind bytes; a value put: PutText of wire, Put of value. -/
import Derived.Test.YtnekkkppjofdlaaDoorWireA
import Derived.Test.YtnekkkppjofdlaaDoorVaY
import Derived.Test.YtnekkkppjofdlaaDoorPlan
namespace Go.Proofs.YtnekkkppjofdlaaDoor
open Go Go.RowKit

theorem wpList_putStr {ops : Array Oper} {rest : List Oper} {o : Oper} {a : Act} {Q : Exit → Act → World → Prop} (w : World) (hgd : o.guard = none) (s x : Operand)
    (ho : o.op = .call { callee := .builtin .append, args := #[s, x], argTypes := #[50, 9] })
    (base : Nat) (i : TypeInfo) (hi : Tryd.prog.info? 5 = some i) (hz : i.zero = some (.int .u8 0)) (hsize : i.size = 1) (hby : i.bytes = 1)
    (v : Value) (hs : a.eval s = v) (bs : List UInt8) (n : Nat) (hn : bs.length = n) (hown : w.ownsRow base 5 1 v n (u8s bs)) (t : ByteArray) (hx : a.eval x = .string t)
    (hbytes : n + t.size ≤ 140737488355328) (hbase : base ≤ w.heap.size)
    (h : ∀ a' c' w', Hid (w'.ownsRow base 5 1 (.slice a' (n + t.size) c') (n + t.size) (u8s (bs ++ t.data.toList))) → Hid (∀ w0 : World, w0.heap.size ≤ base → Keeps [] w0 w → Keeps [] w0 w') → wpList Tryd.prog ops Q rest (a.put o.dst (.slice a' (n + t.size) c')) w') : wpList Tryd.prog ops Q (o :: rest) a w := by
  subst hn
  refine Lib.wpList_append_own_string w hgd s x 50 9 ho base 5 i Tryd.underlying50 Tryd.underlying9 hi hz hsize hby v bs.length (u8s bs) hs hown t hx (le_maxLen (by omega)) hbytes hbase fun v' w' g1 g2 _ => ?_
  obtain ⟨a', c', rfl⟩ := len_form g1
  refine h a' c' w' (by show w'.ownsRow _ _ _ _ _ _; rw [show u8s (bs ++ t.data.toList) = u8s bs ++ Lib.strCells t by simp [u8s, Lib.strCells]]; exact g1) fun w0 hw0 k0 => ?_
  exact k0.trans (Keeps.ofGrown (F := ownB v) g2 (fun k hk => by rw [mem_ownB]; exact hk)) (fun k hk hm => by have := (ownB_ge hown k hm).1; omega)

theorem Reads.k0 {w w' : World} {v : Value} {n : Nat} {xs : List Value} (h : Reads w 1 v n xs) (k : Keeps [] w w') : Reads w' 1 v n xs := h.keeps k (fun _ _ h => by cases h)
theorem intL_len {v : Int} (hv : I64 v) : (intL v).length ≤ 10 := Lib.uvarint_length64 (Lib.zigzag_lt hv.1 hv.2)

set_option maxRecDepth 100000 in
set_option maxHeartbeats 1600000 in
theorem putText_any (a : Option Addr) (bs : List UInt8) (n : Nat) (hn : bs.length = n) (c : Nat) (s : ByteArray) (w : World) (hr : Reads w 1 (.slice a n c) n (u8s bs)) (hb : bs.length + s.size ≤ 140737488354500) (hs : s.size ≤ 1000000) :
    Calls Tryd.prog 54 #[.slice a n c, .string s] w (PutPost bs (textL s) w) := by
  subst hn
  obtain ⟨ip, hi, hz0, hz1, hz2⟩ := info_parts Tryd.infoU8
  have HR := hid hr
  clear hr
  have hI : I64 (s.size : Int) := ⟨by omega, by omega⟩
  have HI := intL_len hI
  go_enter Tryd.func54, Tryd.ntmps54
  go_wp2_with fail
  refine (putInt_any a bs c s.size hI _ HR.out (by omega)).mono ?_
  rintro e w1 ⟨a1, q1, rfl, h1, h2⟩
  have H1 := hid h1
  have H2 : Hid (Keeps [] w w1) := Keeps.trans (by exact Keeps.K) h2 (fun _ _ h => h)
  have HE : Hid (w.heap.size ≤ w1.heap.size) := H2.out.size
  obtain ⟨l1, hl1⟩ : ∃ l1, bs ++ Lib.uvarint (Lib.zigzag (s.size : Int)) = l1 := ⟨_, rfl⟩
  have hl2 : l1.length ≤ bs.length + 10 := by rw [← hl1, List.length_append]; unfold intL at HI; omega
  have HL := hid hl1
  rw [hl1] at H1 ⊢
  clear h1 h2 hl1 HI
  go_wp2_with (at_builtin; go_must (refine wpList_putStr _ (by rfl) _ _ (by rfl) w.heap.size ip hi hz0 hz1 hz2 (.slice a1 l1.length q1) (by rfl) l1 l1.length rfl (by simpa using H1.out) s (by rfl) (by omega) HE.out ?_; intro a4 q4 w4 ho4 hk4))
  go_ret
  have e : bs ++ textL s = l1 ++ s.data.toList := by rw [← HL.out]; unfold textL intL; rw [List.append_assoc]
  have hl : (bs ++ textL s).length = l1.length + s.size := by rw [e, List.length_append]; rfl
  refine ⟨a4, q4, by rw [hl]; rfl, ?_, hk4.out w (Nat.le_refl _) H2.out⟩
  rw [hl, e]
  exact ho4.out

/-- What was put may be put behind. -/
theorem PutPost.reads {bs xs : List UInt8} {w w' : World} {a : Option Addr} {q : Nat} (h : w'.ownsRow w.heap.size 5 1 (.slice a (bs ++ xs).length q) (bs ++ xs).length (u8s (bs ++ xs))) : Reads w' 1 (.slice a (bs ++ xs).length q) (bs ++ xs).length (u8s (bs ++ xs)) := Reads.ofOwn h

set_option maxRecDepth 100000 in
set_option maxHeartbeats 1600000 in
theorem vPut_any (a : Option Addr) (bs : List UInt8) (n : Nat) (hn : bs.length = n) (c : Nat) (v : ValD) (w : World) (hr : Reads w 1 (.slice a n c) n (u8s bs)) (hb : bs.length + v.s.size ≤ 140737488354000) (hs : v.s.size ≤ 1000000) (hk : I64 v.kind) (hv : I64 v.n) :
    Calls Tryd.prog 30 #[.slice a n c, valV v] w (PutPost bs (putL v) w) := by
  obtain ⟨k, m, s⟩ := v
  subst hn
  have HR := hid hr
  have HK := hid hk
  have HV := hid hv
  have lk := intL_len hk
  have lv := intL_len hv
  clear hr hk hv
  unfold valV
  dsimp only at hb hs lk lv
  go_enter Tryd.func30, Tryd.ntmps30
  go_wp2_with fail
  refine Plan.wp_region_plan (fun wx => wx.cell? ⟨w.heap.size, 0, none⟩ = some (.int .i64 k) ∧ wx.cell? ⟨w.heap.size, 1, none⟩ = some (.int .i64 m) ∧ wx.cell? ⟨w.heap.size, 2, none⟩ = some (.string s)) 9 [(true, 0), (true, 1), (true, 2), (true, 4), (true, 5), (true, 7), (true, 8), (false, 3), (false, 6)] (by kernel_rfl) (by as_aux_lemma => kernel_rfl) (by kernel_rfl) (fun _ _ _ _ _ h => h) ?_ (fun hS => ?_)
  (· go_simp)
  simp only [Plan.pick, List.append_eq, List.cons_append, List.nil_append, Plan.g1, Plan.g2, Option.getD_some, List.drop_succ_cons, List.drop_zero]
  iterate 7 (first | refine Plan.tA ?_ | refine Plan.tY ?_ | refine Plan.pN ?_ | refine Plan.pU ?_ | fail)
  refine Plan.step ?_
  go_wp2_with fail
  refine (putInt_any a bs c k HK.out _ (HR.out.k0 (by exact Keeps.K)) (by omega)).mono ?_
  rintro e w1 ⟨a1, q1, rfl, h1, h2⟩
  have f0 : w1.cell? ⟨w.heap.size, 0, none⟩ = some (.int .i64 k) := h2.cellSome (by go_simp) (by simp)
  have f1 : w1.cell? ⟨w.heap.size, 1, none⟩ = some (.int .i64 m) := h2.cellSome (by go_simp) (by simp)
  have f2 : w1.cell? ⟨w.heap.size, 2, none⟩ = some (.string s) := h2.cellSome (by go_simp) (by simp)
  have H1 := hid h1
  have H2 : Hid (Keeps [] w w1) := Keeps.trans (by exact Keeps.K) h2 (fun _ _ h => h)
  obtain ⟨l1, hl1⟩ : ∃ l1, bs ++ Lib.uvarint (Lib.zigzag k) = l1 := ⟨_, rfl⟩
  have hz1 : l1.length ≤ bs.length + 10 := by rw [← hl1, List.length_append]; unfold intL at lk; omega
  have HL1 := hid hl1
  rw [hl1] at H1 ⊢
  clear h1 h2 hl1 hS
  go_wp2_with fail
  refine ⟨?_, ?_⟩
  (· go_simp)
  refine Plan.step ?_
  go_wp2_with fail
  refine (putInt_any a1 l1 q1 m HV.out _ (Reads.ofOwn H1.out) (by omega)).mono ?_
  rintro e w2 ⟨a2, q2, rfl, h1, h2⟩
  have g0 : w2.cell? ⟨w.heap.size, 0, none⟩ = some (.int .i64 k) := h2.cellSome (by go_simp) (by simp)
  have g1 : w2.cell? ⟨w.heap.size, 1, none⟩ = some (.int .i64 m) := h2.cellSome (by go_simp) (by simp)
  have g2 : w2.cell? ⟨w.heap.size, 2, none⟩ = some (.string s) := h2.cellSome (by go_simp) (by simp)
  have K2 : Hid (Keeps [] w w2) := Keeps.trans H2.out h2 (fun _ _ h => h)
  have J2 := hid h1
  obtain ⟨l2, hl2⟩ : ∃ l2, l1 ++ Lib.uvarint (Lib.zigzag m) = l2 := ⟨_, rfl⟩
  have hz2 : l2.length ≤ bs.length + 20 := by rw [← hl2, List.length_append]; unfold intL at lv; omega
  have HL2 := hid hl2
  rw [hl2] at J2 ⊢
  clear h1 h2 hl2 f0 f1 f2
  go_wp2_with fail
  refine ⟨?_, ?_⟩
  (· go_simp)
  refine Plan.fin ?_
  go_wp2_with fail
  refine (putText_any a2 l2 l2.length rfl q2 s _ (Reads.ofOwn J2.out) (by omega) hs).mono ?_
  rintro e w3 ⟨a3, q3, rfl, h1, h2⟩
  have J3 := hid h1
  have K3 : Hid (Keeps [] w w3) := Keeps.trans K2.out h2 (fun _ _ h => h)
  have HB : Hid (w.heap.size ≤ w2.heap.size) := K2.out.size
  have HE : Hid (bs ++ putL ⟨k, m, s⟩ = l2 ++ textL s) := by
    show _ = _
    rw [← HL2.out, ← HL1.out]; unfold putL intL; simp only [List.append_assoc]
  clear h1 h2
  go_wp2_with fail
  go_ret
  unfold PutPost
  rw [HE.out]
  exact ⟨a3, q3, by rw [List.length_append]; rfl, ownsRow_base J3.out HB.out, K3.out⟩

end Go.Proofs.YtnekkkppjofdlaaDoor
