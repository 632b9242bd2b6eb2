/- Unbox, Kind. (Printed by gen_unbox.py.) -/
import Derived.Test.YtnekkkppjofdlaaDoorVaI
namespace Go.Proofs.YtnekkkppjofdlaaDoor
open Go Go.RowKit

theorem results_cell_tmp {P : Program} {fn : Func} {p q : Tmp} {ty : TypeId} (h : fn.results = #[.cell p ty, .tmp q]) (tmps : Array Value) (w : World) (g : Nat) (t : TypeId) (cs : Array Value) (fr : Nat × Nat) (d : TypeDesc) (u : Value)
    (hp : tmps.getD p undef = .pointer (some ⟨g, 0, none⟩)) (hq : tmps.getD q undef = u) (hg : w.heap[g]? = some (.cells cs t fr))
    (hu : P.underlying ty = some d) (hd : (match d with | .struct _ | .array _ _ => true | _ => false) = true) (hi : (P.info? ty).map (·.size) = some cs.size) :
    (results fn tmps).run P w = .ok (.tuple #[.agg cs, u]) w := by
  have hp' : tmps[p]?.getD undef = .pointer (some ⟨g, 0, none⟩) := by simpa using hp
  have hq' : tmps[q]?.getD undef = u := by simpa using hq
  simp [results, h, hp', hq', asAddr, run_loadVar_row w g t ty cs fr d hg hu hd hi]

/-- What Unbox gives. -/
def UnboxPost (v : ValD) (ok : Bool) (w : World) (e : Ending) (w' : World) : Prop := e = .returned (.tuple #[valV v, .bool ok]) ∧ Keeps [] w w'
theorem heap3 {w : World} {b : Nat} {x0 x1 x2 y0 y1 y2 : Value} {t : TypeId} (h : w.heap[b]? = some (.cells #[x0, x1, x2] t (0, 0))) :
    (((w.setCell ⟨b, 0, none⟩ y0).setCell ⟨b, 1, none⟩ y1).setCell ⟨b, 2, none⟩ y2).heap[b]? = some (.cells #[y0, y1, y2] t (0, 0)) :=
  heap_setCell_same _ b 2 _ _ y2 (heap_setCell_same _ b 1 _ _ y1 (heap_setCell_same w b 0 _ _ y0 h))
theorem new2 (w : World) (o o2 : Obj) (n : Nat) (h : n = 0) : ((w.alloc o).alloc o2).heap[w.heap.size]? = some o := by
  rw [Below.heap_alloc (w.alloc o) o2 w.heap.size (by simp)]
  exact heap_alloc_new w o
theorem new_2 (w : World) (o : Obj) (o2 : Obj) : ((w.alloc o).alloc o2).heap[w.heap.size + 1]? = some o2 := by
  have h1 := heap_alloc_new (w.alloc o) o2
  rwa [show (w.alloc o).heap.size = w.heap.size + 1 by simp] at h1
theorem vtext_is (s : ByteArray) (b : Bool) (hb : textOk s = b) (w : World) (hs : s.size ≤ 9223372036854775806) (hT : Tabs w) :
    Calls Tryd.prog 46 #[.string s] w fun e w' => e = .returned (.bool b) ∧ Keeps [] w w' := by
  rw [← hb]; exact vtext_any s w hs hT

set_option maxRecDepth 100000 in
set_option maxHeartbeats 1600000 in
theorem unbox_nil (w : World) : Calls Tryd.prog 15 #[.nilIface] w (UnboxPost val0 true w) := by
  go_enter Tryd.func15, Tryd.ntmps15
  go_wp2_with fail
  refine bodyPost_ret (v := .tuple #[.agg #[.int .i64 0, .int .i64 0, .string ⟨#[]⟩], .bool true]) (results_cell_tmp rfl _ _ w.heap.size 23 _ (0, 0) _ _ rfl rfl (heap_alloc_new _ _) Tryd.underlying23 rfl (by kernel_rfl)) rfl ⟨rfl, Keeps.K⟩

set_option maxRecDepth 100000 in
set_option maxHeartbeats 1600000 in
theorem unbox_int (n : Int) (w : World) : Calls Tryd.prog 15 #[.iface 2 (.int .i64 n)] w (UnboxPost ⟨1, n, ⟨#[]⟩⟩ true w) := by
  have ta0 : ∀ w, (Instr.typeAssert (.iface 2 (.int .i64 n)) 20 2 true).run Tryd.prog w = .ok (.tuple #[.int .i64 n, .bool true]) w := fun _ => by kernel_rfl
  go_enter Tryd.func15, Tryd.ntmps15
  go_wp2_with fail
  refine bodyPost_ret (v := .tuple #[.agg #[.int .i64 1, .int .i64 n, .string ⟨#[]⟩], .bool true]) (results_cell_tmp rfl _ _ w.heap.size 23 _ (0, 0) _ _ rfl rfl (heap_alloc_new _ _) Tryd.underlying23 rfl (by kernel_rfl)) rfl ⟨rfl, Keeps.K⟩

set_option maxRecDepth 100000 in
set_option maxHeartbeats 1600000 in
theorem unbox_true (w : World) : Calls Tryd.prog 15 #[.iface 4 (.bool true)] w (UnboxPost ⟨2, 1, ⟨#[]⟩⟩ true w) := by
  have ta0 : ∀ w, (Instr.typeAssert (.iface 4 (.bool true)) 20 2 true).run Tryd.prog w = .ok (.tuple #[.int .i64 0, .bool false]) w := fun _ => by kernel_rfl
  have ta1 : ∀ w, (Instr.typeAssert (.iface 4 (.bool true)) 20 4 true).run Tryd.prog w = .ok (.tuple #[.bool true, .bool true]) w := fun _ => by kernel_rfl
  go_enter Tryd.func15, Tryd.ntmps15
  go_wp2_with fail
  refine bodyPost_ret (v := .tuple #[.agg #[.int .i64 2, .int .i64 1, .string ⟨#[]⟩], .bool true]) (results_cell_tmp rfl _ _ w.heap.size 23 _ (0, 0) _ _ rfl rfl (new2 w _ _ 0 rfl) Tryd.underlying23 rfl (by kernel_rfl)) rfl ⟨rfl, Keeps.K⟩

set_option maxRecDepth 100000 in
set_option maxHeartbeats 1600000 in
theorem unbox_false (w : World) : Calls Tryd.prog 15 #[.iface 4 (.bool false)] w (UnboxPost ⟨2, 0, ⟨#[]⟩⟩ true w) := by
  have ta0 : ∀ w, (Instr.typeAssert (.iface 4 (.bool false)) 20 2 true).run Tryd.prog w = .ok (.tuple #[.int .i64 0, .bool false]) w := fun _ => by kernel_rfl
  have ta1 : ∀ w, (Instr.typeAssert (.iface 4 (.bool false)) 20 4 true).run Tryd.prog w = .ok (.tuple #[.bool false, .bool true]) w := fun _ => by kernel_rfl
  go_enter Tryd.func15, Tryd.ntmps15
  go_wp2_with fail
  refine bodyPost_ret (v := .tuple #[.agg #[.int .i64 2, .int .i64 0, .string ⟨#[]⟩], .bool true]) (results_cell_tmp rfl _ _ w.heap.size 23 _ (0, 0) _ _ rfl rfl (new2 w _ _ 0 rfl) Tryd.underlying23 rfl (by kernel_rfl)) rfl ⟨rfl, Keeps.K⟩

set_option maxRecDepth 100000 in
set_option maxHeartbeats 1600000 in
theorem unbox_text (s : ByteArray) (w : World) (hT : Tabs w) (hs : s.size ≤ 9223372036854775806) (ho : textOk s = true) : Calls Tryd.prog 15 #[.iface 9 (.string s)] w (UnboxPost ⟨3, 0, s⟩ true w) := by
  have HT := hid hT
  have HO := hid ho
  clear hT ho
  have ta0 : ∀ w, (Instr.typeAssert (.iface 9 (.string s)) 20 2 true).run Tryd.prog w = .ok (.tuple #[.int .i64 0, .bool false]) w := fun _ => by kernel_rfl
  have ta1 : ∀ w, (Instr.typeAssert (.iface 9 (.string s)) 20 4 true).run Tryd.prog w = .ok (.tuple #[.bool false, .bool false]) w := fun _ => by kernel_rfl
  have ta2 : ∀ w, (Instr.typeAssert (.iface 9 (.string s)) 20 9 true).run Tryd.prog w = .ok (.tuple #[.string s, .bool true]) w := fun _ => by kernel_rfl
  go_enter Tryd.func15, Tryd.ntmps15
  go_wp2_with fail
  refine (vtext_is s true HO.out _ hs (HT.out.k (by exact Keeps.K))).mono ?_
  rintro e w1 ⟨rfl, hk⟩
  have HK : Hid (Keeps [] w w1) := Keeps.trans (by exact Keeps.K) hk (fun _ _ h => h)
  have HBK := hid ((hk.block w.heap.size (by simp) (by simp)).trans (heap_alloc_new w _))
  obtain ⟨⟨c0, c1, c2⟩, f⟩ := blk3 HBK.out
  clear hk
  go_wp2_with fail
  refine bodyPost_ret (v := .tuple #[.agg #[.int .i64 3, .int .i64 0, .string s], .bool true]) (results_cell_tmp rfl _ _ w.heap.size 23 _ (0, 0) _ _ rfl rfl (heap3 HBK.out) Tryd.underlying23 rfl (by kernel_rfl)) rfl ⟨rfl, by have kk := HK.out; exact Keeps.K⟩

set_option maxRecDepth 100000 in
set_option maxHeartbeats 1600000 in
theorem unbox_notext (s : ByteArray) (w : World) (hT : Tabs w) (hs : s.size ≤ 9223372036854775806) (ho : textOk s = false) : Calls Tryd.prog 15 #[.iface 9 (.string s)] w (UnboxPost val0 false w) := by
  have HT := hid hT
  have HO := hid ho
  clear hT ho
  have ta0 : ∀ w, (Instr.typeAssert (.iface 9 (.string s)) 20 2 true).run Tryd.prog w = .ok (.tuple #[.int .i64 0, .bool false]) w := fun _ => by kernel_rfl
  have ta1 : ∀ w, (Instr.typeAssert (.iface 9 (.string s)) 20 4 true).run Tryd.prog w = .ok (.tuple #[.bool false, .bool false]) w := fun _ => by kernel_rfl
  have ta2 : ∀ w, (Instr.typeAssert (.iface 9 (.string s)) 20 9 true).run Tryd.prog w = .ok (.tuple #[.string s, .bool true]) w := fun _ => by kernel_rfl
  go_enter Tryd.func15, Tryd.ntmps15
  go_wp2_with fail
  refine (vtext_is s false HO.out _ hs (HT.out.k (by exact Keeps.K))).mono ?_
  rintro e w1 ⟨rfl, hk⟩
  have HK : Hid (Keeps [] w w1) := Keeps.trans (by exact Keeps.K) hk (fun _ _ h => h)
  have HBK := hid ((hk.block w.heap.size (by simp) (by simp)).trans (heap_alloc_new w _))
  obtain ⟨⟨c0, c1, c2⟩, f⟩ := blk3 HBK.out
  clear hk
  go_wp2_with fail
  refine bodyPost_ret (v := .tuple #[.agg #[.int .i64 0, .int .i64 0, .string ⟨#[]⟩], .bool false]) (results_cell_tmp rfl _ _ w.heap.size 23 _ (0, 0) _ _ rfl rfl (heap3 HBK.out) Tryd.underlying23 rfl (by kernel_rfl)) rfl ⟨rfl, by have kk := HK.out; exact Keeps.K⟩

set_option maxRecDepth 100000 in
set_option maxHeartbeats 1600000 in
theorem unbox_val (n : Int) (s : ByteArray) (w : World) (hT : Tabs w) (hs : s.size ≤ 9223372036854775806) (ho : checkD ⟨4, n, s⟩ = true) : Calls Tryd.prog 15 #[.iface 23 (.agg #[.int .i64 4, .int .i64 n, .string s])] w (UnboxPost ⟨4, n, s⟩ true w) := by
  have HT := hid hT
  have HO := hid (vcheck_is ⟨4, n, s⟩ true ho)
  unfold valV at HO
  clear hT ho
  have ta0 : ∀ w, (Instr.typeAssert (.iface 23 (.agg #[.int .i64 4, .int .i64 n, .string s])) 20 2 true).run Tryd.prog w = .ok (.tuple #[.int .i64 0, .bool false]) w := fun _ => by kernel_rfl
  have ta1 : ∀ w, (Instr.typeAssert (.iface 23 (.agg #[.int .i64 4, .int .i64 n, .string s])) 20 4 true).run Tryd.prog w = .ok (.tuple #[.bool false, .bool false]) w := fun _ => by kernel_rfl
  have ta2 : ∀ w, (Instr.typeAssert (.iface 23 (.agg #[.int .i64 4, .int .i64 n, .string s])) 20 9 true).run Tryd.prog w = .ok (.tuple #[.string ⟨#[]⟩, .bool false]) w := fun _ => by kernel_rfl
  have ta3 : ∀ w, (Instr.typeAssert (.iface 23 (.agg #[.int .i64 4, .int .i64 n, .string s])) 20 23 true).run Tryd.prog w = .ok (.tuple #[.agg #[.int .i64 4, .int .i64 n, .string s], .bool true]) w := fun _ => by kernel_rfl
  go_enter Tryd.func15, Tryd.ntmps15
  go_wp2_with fail
  refine (HO.out _ (HT.out.k (by exact Keeps.K)) hs).mono ?_
  rintro e w1 ⟨rfl, hk⟩
  have HK : Hid (Keeps [] w w1) := Keeps.trans (by exact Keeps.K) hk (fun _ _ h => h)
  have HBK := hid ((hk.block w.heap.size (by simp; omega) (by simp)).trans ((((Keeps.refl [] _).alloc _).block w.heap.size (by simp) (by simp)).trans (heap_alloc_new w _)))
  obtain ⟨⟨c0, c1, c2⟩, f⟩ := blk3 HBK.out
  have HBK2 := hid ((hk.block (w.heap.size + 1) (by simp) (by simp)).trans (new_2 w _ _))
  obtain ⟨⟨d0, d1, d2⟩, g⟩ := blk3 HBK2.out
  clear hk
  go_wp2_with fail
  refine bodyPost_ret (v := .tuple #[.agg #[.int .i64 4, .int .i64 n, .string s], .bool true]) (results_cell_tmp rfl _ _ w.heap.size 23 _ (0, 0) _ _ rfl rfl (heap3 HBK.out) Tryd.underlying23 rfl (by kernel_rfl)) rfl ⟨rfl, by have kk := HK.out; exact Keeps.K⟩

set_option maxRecDepth 100000 in
set_option maxHeartbeats 1600000 in
theorem unbox_noval (n : Int) (s : ByteArray) (w : World) (hT : Tabs w) (hs : s.size ≤ 9223372036854775806) (ho : checkD ⟨4, n, s⟩ = false) : Calls Tryd.prog 15 #[.iface 23 (.agg #[.int .i64 4, .int .i64 n, .string s])] w (UnboxPost val0 false w) := by
  have HT := hid hT
  have HO := hid (vcheck_is ⟨4, n, s⟩ false ho)
  unfold valV at HO
  clear hT ho
  have ta0 : ∀ w, (Instr.typeAssert (.iface 23 (.agg #[.int .i64 4, .int .i64 n, .string s])) 20 2 true).run Tryd.prog w = .ok (.tuple #[.int .i64 0, .bool false]) w := fun _ => by kernel_rfl
  have ta1 : ∀ w, (Instr.typeAssert (.iface 23 (.agg #[.int .i64 4, .int .i64 n, .string s])) 20 4 true).run Tryd.prog w = .ok (.tuple #[.bool false, .bool false]) w := fun _ => by kernel_rfl
  have ta2 : ∀ w, (Instr.typeAssert (.iface 23 (.agg #[.int .i64 4, .int .i64 n, .string s])) 20 9 true).run Tryd.prog w = .ok (.tuple #[.string ⟨#[]⟩, .bool false]) w := fun _ => by kernel_rfl
  have ta3 : ∀ w, (Instr.typeAssert (.iface 23 (.agg #[.int .i64 4, .int .i64 n, .string s])) 20 23 true).run Tryd.prog w = .ok (.tuple #[.agg #[.int .i64 4, .int .i64 n, .string s], .bool true]) w := fun _ => by kernel_rfl
  go_enter Tryd.func15, Tryd.ntmps15
  go_wp2_with fail
  refine (HO.out _ (HT.out.k (by exact Keeps.K)) hs).mono ?_
  rintro e w1 ⟨rfl, hk⟩
  have HK : Hid (Keeps [] w w1) := Keeps.trans (by exact Keeps.K) hk (fun _ _ h => h)
  have HBK := hid ((hk.block w.heap.size (by simp; omega) (by simp)).trans ((((Keeps.refl [] _).alloc _).block w.heap.size (by simp) (by simp)).trans (heap_alloc_new w _)))
  obtain ⟨⟨c0, c1, c2⟩, f⟩ := blk3 HBK.out
  have HBK2 := hid ((hk.block (w.heap.size + 1) (by simp) (by simp)).trans (new_2 w _ _))
  obtain ⟨⟨d0, d1, d2⟩, g⟩ := blk3 HBK2.out
  clear hk
  go_wp2_with fail
  refine bodyPost_ret (v := .tuple #[.agg #[.int .i64 0, .int .i64 0, .string ⟨#[]⟩], .bool false]) (results_cell_tmp rfl _ _ w.heap.size 23 _ (0, 0) _ _ rfl rfl (heap3 HBK.out) Tryd.underlying23 rfl (by kernel_rfl)) rfl ⟨rfl, by have kk := HK.out; exact Keeps.K⟩

set_option maxRecDepth 100000 in
set_option maxHeartbeats 1600000 in
theorem unbox_okind (k n : Int) (s : ByteArray) (w : World) (hk : (k == 4) = false) : Calls Tryd.prog 15 #[.iface 23 (.agg #[.int .i64 k, .int .i64 n, .string s])] w (UnboxPost val0 false w) := by
  have ta0 : ∀ w, (Instr.typeAssert (.iface 23 (.agg #[.int .i64 k, .int .i64 n, .string s])) 20 2 true).run Tryd.prog w = .ok (.tuple #[.int .i64 0, .bool false]) w := fun _ => by kernel_rfl
  have ta1 : ∀ w, (Instr.typeAssert (.iface 23 (.agg #[.int .i64 k, .int .i64 n, .string s])) 20 4 true).run Tryd.prog w = .ok (.tuple #[.bool false, .bool false]) w := fun _ => by kernel_rfl
  have ta2 : ∀ w, (Instr.typeAssert (.iface 23 (.agg #[.int .i64 k, .int .i64 n, .string s])) 20 9 true).run Tryd.prog w = .ok (.tuple #[.string ⟨#[]⟩, .bool false]) w := fun _ => by kernel_rfl
  have ta3 : ∀ w, (Instr.typeAssert (.iface 23 (.agg #[.int .i64 k, .int .i64 n, .string s])) 20 23 true).run Tryd.prog w = .ok (.tuple #[.agg #[.int .i64 k, .int .i64 n, .string s], .bool true]) w := fun _ => by kernel_rfl
  go_enter Tryd.func15, Tryd.ntmps15
  go_wp2_with fail
  refine bodyPost_ret (v := .tuple #[.agg #[.int .i64 0, .int .i64 0, .string ⟨#[]⟩], .bool false]) (results_cell_tmp rfl _ _ w.heap.size 23 _ (0, 0) _ _ rfl rfl (new2 w _ _ 0 rfl) Tryd.underlying23 rfl (by kernel_rfl)) rfl ⟨rfl, Keeps.K⟩

set_option maxRecDepth 100000 in
set_option maxHeartbeats 1600000 in
theorem unbox_goint (n : Int) (w : World) : Calls Tryd.prog 15 #[.iface 3 (.int .i64 n)] w (UnboxPost val0 false w) := by
  have ta0 : ∀ w, (Instr.typeAssert (.iface 3 (.int .i64 n)) 20 2 true).run Tryd.prog w = .ok (.tuple #[.int .i64 0, .bool false]) w := fun _ => by kernel_rfl
  have ta1 : ∀ w, (Instr.typeAssert (.iface 3 (.int .i64 n)) 20 4 true).run Tryd.prog w = .ok (.tuple #[.bool false, .bool false]) w := fun _ => by kernel_rfl
  have ta2 : ∀ w, (Instr.typeAssert (.iface 3 (.int .i64 n)) 20 9 true).run Tryd.prog w = .ok (.tuple #[.string ⟨#[]⟩, .bool false]) w := fun _ => by kernel_rfl
  have ta3 : ∀ w, (Instr.typeAssert (.iface 3 (.int .i64 n)) 20 23 true).run Tryd.prog w = .ok (.tuple #[.agg #[.int .i64 0, .int .i64 0, .string ⟨#[]⟩], .bool false]) w := fun _ => by kernel_rfl
  go_enter Tryd.func15, Tryd.ntmps15
  go_wp2_with fail
  refine bodyPost_ret (v := .tuple #[.agg #[.int .i64 0, .int .i64 0, .string ⟨#[]⟩], .bool false]) (results_cell_tmp rfl _ _ w.heap.size 23 _ (0, 0) _ _ rfl rfl (heap_alloc_new _ _) Tryd.underlying23 rfl (by kernel_rfl)) rfl ⟨rfl, Keeps.K⟩

set_option maxRecDepth 100000 in
set_option maxHeartbeats 1600000 in
theorem unbox_ptr (a : Option Addr) (w : World) : Calls Tryd.prog 15 #[.iface 73 (.pointer a)] w (UnboxPost val0 false w) := by
  have ta0 : ∀ w, (Instr.typeAssert (.iface 73 (.pointer a)) 20 2 true).run Tryd.prog w = .ok (.tuple #[.int .i64 0, .bool false]) w := fun _ => by kernel_rfl
  have ta1 : ∀ w, (Instr.typeAssert (.iface 73 (.pointer a)) 20 4 true).run Tryd.prog w = .ok (.tuple #[.bool false, .bool false]) w := fun _ => by kernel_rfl
  have ta2 : ∀ w, (Instr.typeAssert (.iface 73 (.pointer a)) 20 9 true).run Tryd.prog w = .ok (.tuple #[.string ⟨#[]⟩, .bool false]) w := fun _ => by kernel_rfl
  have ta3 : ∀ w, (Instr.typeAssert (.iface 73 (.pointer a)) 20 23 true).run Tryd.prog w = .ok (.tuple #[.agg #[.int .i64 0, .int .i64 0, .string ⟨#[]⟩], .bool false]) w := fun _ => by kernel_rfl
  go_enter Tryd.func15, Tryd.ntmps15
  go_wp2_with fail
  refine bodyPost_ret (v := .tuple #[.agg #[.int .i64 0, .int .i64 0, .string ⟨#[]⟩], .bool false]) (results_cell_tmp rfl _ _ w.heap.size 23 _ (0, 0) _ _ rfl rfl (heap_alloc_new _ _) Tryd.underlying23 rfl (by kernel_rfl)) rfl ⟨rfl, Keeps.K⟩

set_option maxRecDepth 100000 in
set_option maxHeartbeats 1600000 in
theorem unbox_bytes (a : Option Addr) (n c : Nat) (w : World) : Calls Tryd.prog 15 #[.iface 50 (.slice a n c)] w (UnboxPost val0 false w) := by
  have ta0 : ∀ w, (Instr.typeAssert (.iface 50 (.slice a n c)) 20 2 true).run Tryd.prog w = .ok (.tuple #[.int .i64 0, .bool false]) w := fun _ => by kernel_rfl
  have ta1 : ∀ w, (Instr.typeAssert (.iface 50 (.slice a n c)) 20 4 true).run Tryd.prog w = .ok (.tuple #[.bool false, .bool false]) w := fun _ => by kernel_rfl
  have ta2 : ∀ w, (Instr.typeAssert (.iface 50 (.slice a n c)) 20 9 true).run Tryd.prog w = .ok (.tuple #[.string ⟨#[]⟩, .bool false]) w := fun _ => by kernel_rfl
  have ta3 : ∀ w, (Instr.typeAssert (.iface 50 (.slice a n c)) 20 23 true).run Tryd.prog w = .ok (.tuple #[.agg #[.int .i64 0, .int .i64 0, .string ⟨#[]⟩], .bool false]) w := fun _ => by kernel_rfl
  go_enter Tryd.func15, Tryd.ntmps15
  go_wp2_with fail
  refine bodyPost_ret (v := .tuple #[.agg #[.int .i64 0, .int .i64 0, .string ⟨#[]⟩], .bool false]) (results_cell_tmp rfl _ _ w.heap.size 23 _ (0, 0) _ _ rfl rfl (heap_alloc_new _ _) Tryd.underlying23 rfl (by kernel_rfl)) rfl ⟨rfl, Keeps.K⟩

set_option maxRecDepth 100000 in
set_option maxHeartbeats 1600000 in
theorem unbox_float (x : Value) (w : World) : Calls Tryd.prog 15 #[.iface 74 (x)] w (UnboxPost val0 false w) := by
  have ta0 : ∀ w, (Instr.typeAssert (.iface 74 (x)) 20 2 true).run Tryd.prog w = .ok (.tuple #[.int .i64 0, .bool false]) w := fun _ => by kernel_rfl
  have ta1 : ∀ w, (Instr.typeAssert (.iface 74 (x)) 20 4 true).run Tryd.prog w = .ok (.tuple #[.bool false, .bool false]) w := fun _ => by kernel_rfl
  have ta2 : ∀ w, (Instr.typeAssert (.iface 74 (x)) 20 9 true).run Tryd.prog w = .ok (.tuple #[.string ⟨#[]⟩, .bool false]) w := fun _ => by kernel_rfl
  have ta3 : ∀ w, (Instr.typeAssert (.iface 74 (x)) 20 23 true).run Tryd.prog w = .ok (.tuple #[.agg #[.int .i64 0, .int .i64 0, .string ⟨#[]⟩], .bool false]) w := fun _ => by kernel_rfl
  go_enter Tryd.func15, Tryd.ntmps15
  go_wp2_with fail
  refine bodyPost_ret (v := .tuple #[.agg #[.int .i64 0, .int .i64 0, .string ⟨#[]⟩], .bool false]) (results_cell_tmp rfl _ _ w.heap.size 23 _ (0, 0) _ _ rfl rfl (heap_alloc_new _ _) Tryd.underlying23 rfl (by kernel_rfl)) rfl ⟨rfl, Keeps.K⟩

set_option maxRecDepth 100000 in
set_option maxHeartbeats 1600000 in
theorem unbox_errno (n : Int) (w : World) : Calls Tryd.prog 15 #[.iface 75 (.int .i64 n)] w (UnboxPost val0 false w) := by
  have ta0 : ∀ w, (Instr.typeAssert (.iface 75 (.int .i64 n)) 20 2 true).run Tryd.prog w = .ok (.tuple #[.int .i64 0, .bool false]) w := fun _ => by kernel_rfl
  have ta1 : ∀ w, (Instr.typeAssert (.iface 75 (.int .i64 n)) 20 4 true).run Tryd.prog w = .ok (.tuple #[.bool false, .bool false]) w := fun _ => by kernel_rfl
  have ta2 : ∀ w, (Instr.typeAssert (.iface 75 (.int .i64 n)) 20 9 true).run Tryd.prog w = .ok (.tuple #[.string ⟨#[]⟩, .bool false]) w := fun _ => by kernel_rfl
  have ta3 : ∀ w, (Instr.typeAssert (.iface 75 (.int .i64 n)) 20 23 true).run Tryd.prog w = .ok (.tuple #[.agg #[.int .i64 0, .int .i64 0, .string ⟨#[]⟩], .bool false]) w := fun _ => by kernel_rfl
  go_enter Tryd.func15, Tryd.ntmps15
  go_wp2_with fail
  refine bodyPost_ret (v := .tuple #[.agg #[.int .i64 0, .int .i64 0, .string ⟨#[]⟩], .bool false]) (results_cell_tmp rfl _ _ w.heap.size 23 _ (0, 0) _ _ rfl rfl (heap_alloc_new _ _) Tryd.underlying23 rfl (by kernel_rfl)) rfl ⟨rfl, Keeps.K⟩

set_option maxRecDepth 100000 in
theorem kind_yes (x : Value) (v : ValD) (w : World) (h : Calls Tryd.prog 15 #[x] w (UnboxPost v true w)) : Calls Tryd.prog 16 #[x] w fun e w' => e = .returned (.int .i64 v.kind) ∧ Keeps [] w w' := by
  have H := hid h
  clear h
  go_enter Tryd.func16, Tryd.ntmps16
  go_wp2_with fail
  refine H.out.mono ?_
  rintro e w1 ⟨rfl, hk⟩
  have HK := hid hk
  clear hk
  unfold valV
  go_wp2_with fail
  go_ret
  exact ⟨rfl, by have kk := HK.out; exact Keeps.K⟩
set_option maxRecDepth 100000 in
theorem kind_no (x : Value) (v : ValD) (w : World) (h : Calls Tryd.prog 15 #[x] w (UnboxPost v false w)) : Calls Tryd.prog 16 #[x] w fun e w' => e = .returned (.int .i64 (-1)) ∧ Keeps [] w w' := by
  have H := hid h
  clear h
  go_enter Tryd.func16, Tryd.ntmps16
  go_wp2_with fail
  refine H.out.mono ?_
  rintro e w1 ⟨rfl, hk⟩
  have HK := hid hk
  clear hk
  unfold valV
  go_wp2_with fail
  go_ret
  exact ⟨rfl, by have kk := HK.out; exact Keeps.K⟩

end Go.Proofs.YtnekkkppjofdlaaDoor
