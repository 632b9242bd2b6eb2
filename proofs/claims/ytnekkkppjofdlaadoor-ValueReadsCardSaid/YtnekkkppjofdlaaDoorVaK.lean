/- Assertions that fail: wrong, Int, Bool, Text; caught. -/
import Derived.Test.YtnekkkppjofdlaaDoorVaJ
import Derived.Tactics2
import Derived.WalkSmall
import Derived.Defers
import Derived.Recover
namespace Go.Proofs.YtnekkkppjofdlaaDoor
open Go Go.RowKit

def wrongE (b : Nat) : PanicEntry := { v := .iface 76 (.pointer (some ⟨b, 0, none⟩)), recovered := false }

set_option maxRecDepth 100000 in
theorem wrong_panicking (want got : Int) (x : Value) (u : TypeId) (pv : Value) (older : List PanicEntry) (w : World) (hK : Calls Tryd.prog 16 #[x] w fun e w' => e = .returned (.int .i64 got) ∧ Keeps [] w w') :
    CallsD Tryd.prog 53 #[.int .i64 want, x] (.panicking ({ v := .iface u pv, recovered := false } :: older)) w fun e u' w' =>
      ∃ b, e = .panicked [wrongE b] ∧ u' = .panicking ({ v := .iface u pv, recovered := true } :: older) ∧ w'.heap[b]? = some (.cells #[.int .i64 want, .int .i64 got] 43 (0, 0)) ∧ w.heap.size ≤ b ∧ Keeps [] w w' := by
  have H := hid hK
  clear hK
  refine callsD_of_wpS Tryd.func53 rfl fun c₀ cs hu => ?_
  apply wpS_seq
  apply wpS_region
  simp [wpOpsS, go_sem, recoverD, hu, Tryd.ntmps53, Exit.thenS]
  rw [show (#[.int .i64 want, x] ++ ((Array.replicate 12 undef).setIfInBounds 3 (.iface u pv)).setIfInBounds 2 (.iface u pv) : Array Value) = #[.int .i64 want, x, undef, undef, .iface u pv, .iface u pv, undef, undef, undef, undef, undef, undef, undef, undef] from rfl]
  refine wpS_of_wp ?_
  go_wp2_with fail
  refine H.out.mono ?_
  rintro e w1 ⟨rfl, hk⟩
  have HK := hid hk
  clear hk hu
  go_wp2_with fail
  exact ⟨rfl, _, rfl, w1.heap.size, rfl, rfl, heap_alloc_new _ _, HK.out.size, by have kk := HK.out; exact Keeps.K⟩

theorem wrong_idle (want : Int) (x : Value) (w : World) :
    CallsD Tryd.prog 53 #[.int .i64 want, x] .returning w fun e u' w' => e = .returned (.tuple #[]) ∧ u' = .returning ∧ w' = w := by
  refine callsD_of_wpS Tryd.func53 rfl fun c₀ cs hu => ?_
  apply wpS_seq
  apply wpS_region
  simp [wpOpsS, go_sem, recoverD, hu, Tryd.ntmps53, Exit.thenS]
  rw [show (#[.int .i64 want, x] ++ ((Array.replicate 12 undef).setIfInBounds 3 .nilIface).setIfInBounds 2 .nilIface : Array Value) = #[.int .i64 want, x, undef, undef, .nilIface, .nilIface, undef, undef, undef, undef, undef, undef, undef, undef] from rfl]
  refine wpS_of_wp ?_
  go_wp2_with fail
  refine ⟨rfl, .returning, by cases c₀; simp_all, _, ?_, rfl, rfl, rfl⟩
  simp [results, Tryd.results53, go_sem]

/-- It fell, with what was wanted and what there was. -/
def FellPost (want got : Int) (w : World) (e : Ending) (w' : World) : Prop := ∃ b rest, e = .panicked (wrongE b :: rest) ∧ rest.dropWhile (!·.goexit) = [] ∧ w'.heap[b]? = some (.cells #[.int .i64 want, .int .i64 got] 43 (0, 0)) ∧ w.heap.size ≤ b ∧ Keeps [] w w'

set_option maxRecDepth 100000 in
theorem int_fails (x : Value) (got : Int) (w : World) (hf : ∃ u v o, (Instr.typeAssert x 20 2 false).run Tryd.prog w = .halt (.panic (.iface u v)) (w.alloc o))
    (hK : ∀ wx, Keeps [] w wx → Calls Tryd.prog 16 #[x] wx fun e w' => e = .returned (.int .i64 got) ∧ Keeps [] wx w') :
    Calls Tryd.prog 27 #[x] w (FellPost 1 got w) := by
  obtain ⟨u, v, o, hta⟩ := hf
  have H := hid hK
  clear hK
  go_enter_defers Tryd.func27, Tryd.ntmps27
  go_wp2_with fail
  refine leaves_cons (f := 53) (args := #[.int .i64 1, x]) (by simp) (by simp [go_sem]) ?_
  refine (wrong_panicking 1 got x u v [] _ (H.out _ (by exact Keeps.K))).mono ?_
  rintro e u' w'' ⟨b, rfl, rfl, hb, hle, hk⟩
  exact ⟨b, _, rfl, rfl, hb, Nat.le_trans (by simp) hle, Keeps.trans (by exact Keeps.K) hk (fun _ _ h => h)⟩
set_option maxRecDepth 100000 in
theorem bool_fails (x : Value) (got : Int) (w : World) (hf : ∃ u v o, (Instr.typeAssert x 20 4 false).run Tryd.prog w = .halt (.panic (.iface u v)) (w.alloc o))
    (hK : ∀ wx, Keeps [] w wx → Calls Tryd.prog 16 #[x] wx fun e w' => e = .returned (.int .i64 got) ∧ Keeps [] wx w') :
    Calls Tryd.prog 28 #[x] w (FellPost 2 got w) := by
  obtain ⟨u, v, o, hta⟩ := hf
  have H := hid hK
  clear hK
  go_enter_defers Tryd.func28, Tryd.ntmps28
  go_wp2_with fail
  refine leaves_cons (f := 53) (args := #[.int .i64 2, x]) (by simp) (by simp [go_sem]) ?_
  refine (wrong_panicking 2 got x u v [] _ (H.out _ (by exact Keeps.K))).mono ?_
  rintro e u' w'' ⟨b, rfl, rfl, hb, hle, hk⟩
  exact ⟨b, _, rfl, rfl, hb, Nat.le_trans (by simp) hle, Keeps.trans (by exact Keeps.K) hk (fun _ _ h => h)⟩
set_option maxRecDepth 100000 in
theorem textA_fails (x : Value) (got : Int) (w : World) (hf : ∃ u v o, (Instr.typeAssert x 20 9 false).run Tryd.prog w = .halt (.panic (.iface u v)) (w.alloc o))
    (hK : ∀ wx, Keeps [] w wx → Calls Tryd.prog 16 #[x] wx fun e w' => e = .returned (.int .i64 got) ∧ Keeps [] wx w') :
    Calls Tryd.prog 29 #[x] w (FellPost 3 got w) := by
  obtain ⟨u, v, o, hta⟩ := hf
  have H := hid hK
  clear hK
  go_enter_defers Tryd.func29, Tryd.ntmps29
  go_wp2_with fail
  refine leaves_cons (f := 53) (args := #[.int .i64 3, x]) (by simp) (by simp [go_sem]) ?_
  refine (wrong_panicking 3 got x u v [] _ (H.out _ (by exact Keeps.K))).mono ?_
  rintro e u' w'' ⟨b, rfl, rfl, hb, hle, hk⟩
  exact ⟨b, _, rfl, rfl, hb, Nat.le_trans (by simp) hle, Keeps.trans (by exact Keeps.K) hk (fun _ _ h => h)⟩
set_option maxRecDepth 100000 in
theorem int_good (n : Int) (w : World) : Calls Tryd.prog 27 #[.iface 2 (.int .i64 n)] w fun e w' => e = .returned (.int .i64 n) ∧ Keeps [] w w' := by
  have ta : ∀ w, (Instr.typeAssert (.iface 2 (.int .i64 n)) 20 2 false).run Tryd.prog w = .ok (.int .i64 n) w := fun _ => by kernel_rfl
  go_enter_defers Tryd.func27, Tryd.ntmps27
  go_wp2_with fail
  refine leaves_cons (f := 53) (args := #[.int .i64 1, .iface 2 (.int .i64 n)]) (by simp) (by simp [go_sem]) ?_
  refine (wrong_idle 1 _ _).mono ?_
  rintro e u' w'' ⟨rfl, rfl, hw⟩
  subst hw
  exact ⟨_, results_tmp rfl _ _ _, rfl, Keeps.refl [] _⟩
set_option maxRecDepth 100000 in
theorem bool_good (b : Bool) (w : World) : Calls Tryd.prog 28 #[.iface 4 (.bool b)] w fun e w' => e = .returned (.bool b) ∧ Keeps [] w w' := by
  have ta : ∀ w, (Instr.typeAssert (.iface 4 (.bool b)) 20 4 false).run Tryd.prog w = .ok (.bool b) w := fun _ => by kernel_rfl
  go_enter_defers Tryd.func28, Tryd.ntmps28
  go_wp2_with fail
  refine leaves_cons (f := 53) (args := #[.int .i64 2, .iface 4 (.bool b)]) (by simp) (by simp [go_sem]) ?_
  refine (wrong_idle 2 _ _).mono ?_
  rintro e u' w'' ⟨rfl, rfl, hw⟩
  subst hw
  exact ⟨_, results_tmp rfl _ _ _, rfl, Keeps.refl [] _⟩
set_option maxRecDepth 100000 in
theorem text_good (s : ByteArray) (w : World) (hT : Tabs w) (hs : s.size ≤ 9223372036854775806) (ho : textOk s = true) : Calls Tryd.prog 29 #[.iface 9 (.string s)] w fun e w' => e = .returned (.string s) ∧ Keeps [] w w' := by
  have ta : ∀ w, (Instr.typeAssert (.iface 9 (.string s)) 20 9 false).run Tryd.prog w = .ok (.string s) w := fun _ => by kernel_rfl
  have HT := hid hT
  have HO := hid ho
  clear hT ho
  go_enter_defers Tryd.func29, Tryd.ntmps29
  go_wp2_with fail
  refine (vtext_is s true HO.out _ hs HT.out).mono ?_
  rintro e w1 ⟨rfl, hk⟩
  have HK := hid hk
  clear hk
  go_wp2_with fail
  refine leaves_cons (f := 53) (args := #[.int .i64 3, .iface 9 (.string s)]) (by simp) (by simp [go_sem]) ?_
  refine (wrong_idle 3 _ _).mono ?_
  rintro e u' w'' ⟨rfl, rfl, hw⟩
  subst hw
  exact ⟨_, results_tmp rfl _ _ _, rfl, HK.out⟩
set_option maxRecDepth 100000 in
theorem textB_fails (s : ByteArray) (w : World) (hT : Tabs w) (hs : s.size ≤ 9223372036854775806) (ho : textOk s = false) : Calls Tryd.prog 29 #[.iface 9 (.string s)] w (FellPost 3 (-1) w) := by
  have ta : ∀ w, (Instr.typeAssert (.iface 9 (.string s)) 20 9 false).run Tryd.prog w = .ok (.string s) w := fun _ => by kernel_rfl
  have HT := hid hT
  have HO := hid ho
  clear hT ho
  go_enter_defers Tryd.func29, Tryd.ntmps29
  go_wp2_with fail
  refine (vtext_is s false HO.out _ hs HT.out).mono ?_
  rintro e w1 ⟨rfl, hk⟩
  have HK := hid hk
  clear hk
  go_wp2_with fail
  refine leaves_cons (f := 53) (args := #[.int .i64 3, .iface 9 (.string s)]) (by simp) (by simp [go_sem]) ?_
  refine (wrong_panicking 3 (-1) _ 9 (.string s) [] _ (kind_no _ _ _ (unbox_notext s _ (HT.out.k HK.out) hs HO.out))).mono ?_
  rintro e u' w'' ⟨b, rfl, rfl, hb, hle, hk⟩
  exact ⟨b, _, rfl, rfl, hb, Nat.le_trans HK.out.size hle, HK.out.trans hk (fun _ _ h => h)⟩

/-! caught. -/
set_option maxRecDepth 100000 in
set_option maxHeartbeats 1000000 in
theorem catch_panicking (p q : Nat) (b : Nat) (a0 a1 want got : Int) (c0 : Bool) (rest : List PanicEntry) (w : World) (hp : w.heap[p]? = some (.cells #[.int .i64 a0, .int .i64 a1] 43 (0, 0))) (hq : w.heap[q]? = some (.cells #[.bool c0] 4 (0, 0))) (hpq : p ≠ q) (hb : w.heap[b]? = some (.cells #[.int .i64 want, .int .i64 got] 43 (0, 0))) :
    CallsD Tryd.prog 52 #[.pointer (some ⟨p, 0, none⟩), .pointer (some ⟨q, 0, none⟩)] (.panicking (wrongE b :: rest)) w fun e u' w' =>
      e = .returned (.tuple #[]) ∧ u' = .panicking ({ v := .iface 76 (.pointer (some ⟨b, 0, none⟩)), recovered := true } :: rest) ∧ w'.heap[p]? = some (.cells #[.int .i64 want, .int .i64 got] 43 (0, 0)) ∧ w'.heap[q]? = some (.cells #[.bool true] 4 (0, 0)) ∧ Keeps [p, q] w w' := by
  have HP := hid hp
  have HQ := hid hq
  have ta : ∀ w, (Instr.typeAssert (.iface 76 (.pointer (some ⟨b, 0, none⟩))) 20 76 true).run Tryd.prog w = .ok (.tuple #[.pointer (some ⟨b, 0, none⟩), .bool true]) w := fun _ => by kernel_rfl
  have TA := hid ta
  have y0 : w.cell? ⟨b, 0, none⟩ = some (.int .i64 want) := cell_of_block hb 0
  have y1 : w.cell? ⟨b, 1, none⟩ = some (.int .i64 got) := cell_of_block hb 1
  have x0 : w.cell? ⟨p, 0, none⟩ = some (.int .i64 a0) := cell_of_block hp 0
  have x1 : w.cell? ⟨p, 1, none⟩ = some (.int .i64 a1) := cell_of_block hp 1
  have f0 : ∀ i, w.frozen? ⟨p, i, none⟩ = false := fun i => frozen_of_row w p i _ _ hp
  have z0 : w.cell? ⟨q, 0, none⟩ = some (.bool c0) := cell_of_block hq 0
  have g0 : ∀ i, w.frozen? ⟨q, i, none⟩ = false := fun i => frozen_of_row w q i _ _ hq
  have HPQ := hid hpq
  clear hp hq hb
  unfold wrongE
  refine callsD_of_wpS Tryd.func52 rfl fun c₀ cs hu => ?_
  apply wpS_seq
  apply wpS_region
  simp [wpOpsS, go_sem, recoverD, hu, Tryd.ntmps52, Exit.thenS]
  rw [show (#[.pointer (some ⟨p, 0, none⟩), .pointer (some ⟨q, 0, none⟩)] ++ ((Array.replicate 19 undef).setIfInBounds 3 (.iface 76 (.pointer (some ⟨b, 0, none⟩)))).setIfInBounds 0 (.iface 76 (.pointer (some ⟨b, 0, none⟩))) : Array Value) = #[.pointer (some ⟨p, 0, none⟩), .pointer (some ⟨q, 0, none⟩), .iface 76 (.pointer (some ⟨b, 0, none⟩)), undef, undef, .iface 76 (.pointer (some ⟨b, 0, none⟩)), undef, undef, undef, undef, undef, undef, undef, undef, undef, undef, undef, undef, undef, undef, undef] from by kernel_rfl]
  refine wpS_of_wp ?_
  have hqp : ¬ q = p := fun h => hpq h.symm
  clear hu ta
  have ta := TA.out
  go_wp2_with fail
  have kp : Keeps [p] w ((w.setCell ⟨p, 0, none⟩ (.int .i64 want)).setCell ⟨p, 1, none⟩ (.int .i64 got)) := ((Keeps.refl _ _).setCell (.inl (by simp)) _).setCell (.inl (by simp)) _
  have hp2 : (((w.setCell ⟨p, 0, none⟩ (.int .i64 want)).setCell ⟨p, 1, none⟩ (.int .i64 got)).setCell ⟨q, 0, none⟩ (.bool true)).heap[p]? = some (.cells #[.int .i64 want, .int .i64 got] 43 (0, 0)) :=
    (heap_setCell_other _ ⟨q, 0, none⟩ p _ (fun h => HPQ.out (by simpa using h))).trans (heap_setCell_same _ p 1 _ _ _ (heap_setCell_same w p 0 _ _ _ HP.out))
  have hqw : ((w.setCell ⟨p, 0, none⟩ (.int .i64 want)).setCell ⟨p, 1, none⟩ (.int .i64 got)).heap[q]? = some (.cells #[.bool c0] 4 (0, 0)) := by
    have hlt : q < w.heap.size := (Array.getElem?_eq_some_iff.1 HQ.out).1
    rw [kp.block q hlt (by simpa using hqp)]
    exact HQ.out
  have hq2 := heap_setCell_same _ q 0 _ _ (.bool true) hqw
  exact ⟨rfl, _, rfl, _, by simp [results, Tryd.results52, go_sem], rfl, rfl, hp2, hq2, (kp.mono (G := [p, q]) (fun _ _ h => by simp at h; simp [h])).trans ((Keeps.refl [q] _).setCell (.inl (by simp)) _) (fun _ _ h => by simp at h; simp [h])⟩

theorem catch_idle (p q : Nat) (w : World) : CallsD Tryd.prog 52 #[.pointer (some ⟨p, 0, none⟩), .pointer (some ⟨q, 0, none⟩)] .returning w fun e u' w' => e = .returned (.tuple #[]) ∧ u' = .returning ∧ w' = w := by
  refine callsD_of_wpS Tryd.func52 rfl fun c₀ cs hu => ?_
  apply wpS_seq
  apply wpS_region
  simp [wpOpsS, go_sem, recoverD, hu, Tryd.ntmps52, Exit.thenS]
  rw [show (#[.pointer (some ⟨p, 0, none⟩), .pointer (some ⟨q, 0, none⟩)] ++ ((Array.replicate 19 undef).setIfInBounds 3 .nilIface).setIfInBounds 0 .nilIface : Array Value) = #[.pointer (some ⟨p, 0, none⟩), .pointer (some ⟨q, 0, none⟩), .nilIface, undef, undef, .nilIface, undef, undef, undef, undef, undef, undef, undef, undef, undef, undef, undef, undef, undef, undef, undef] from by kernel_rfl]
  refine wpS_of_wp ?_
  go_wp2_with fail
  refine ⟨rfl, .returning, by cases c₀; simp_all, _, ?_, rfl, rfl, rfl⟩
  simp [results, Tryd.results52, go_sem]

end Go.Proofs.YtnekkkppjofdlaaDoor
