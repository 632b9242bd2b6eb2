/- awake: the document's examples. -/
import Derived.Test.YtnekkkppjofdlaaDoorVaK
namespace Go.Proofs.YtnekkkppjofdlaaDoor
open Go Go.RowKit

theorem ok_a : checkD ⟨3, 0, ⟨#[97]⟩⟩ = true := by decide +kernel
theorem text_a : textOk ⟨#[97]⟩ = true := by decide +kernel
theorem box_a : boxV ⟨3, 0, ⟨#[97]⟩⟩ = .iface 9 (.string ⟨#[97]⟩) := by
  unfold boxV
  rw [if_pos ok_a, if_neg (by decide), if_neg (by decide), if_pos rfl]
theorem show_a : showL ⟨3, 0, ⟨#[97, 34, 98]⟩⟩ = [34, 97, 92, 34, 98, 34] := by
  rw [showL_text]
  decide +kernel

set_option maxRecDepth 100000 in
theorem awake1_any (w : World) (hT : Tabs w) : Calls Tryd.prog 43 #[] w (FellPost 1 3 w) := by
  have HT := hid hT
  have HB := fun w h1 h2 => vbox_any ⟨3, 0, ⟨#[97]⟩⟩ w h1 h2
  rw [box_a] at HB
  unfold valV at HB
  have HB' := hid HB
  clear hT HB
  go_enter Tryd.func43, Tryd.ntmps43
  go_wp2_with fail
  refine (HB'.out _ HT.out (by decide)).mono ?_
  rintro e w1 ⟨rfl, hk⟩
  have HK := hid hk
  clear hk
  go_wp2_with fail
  refine (int_fails (.iface 9 (.string ⟨#[97]⟩)) 3 _ ⟨_, _, _, rfl⟩ (fun wx kx => kind_yes _ ⟨3, 0, ⟨#[97]⟩⟩ _ (unbox_text _ _ ((HT.out.k HK.out).k kx) (by decide) text_a))).mono ?_
  rintro e w2 ⟨b, rest, rfl, h1, h2, h3, h4⟩
  have H : Hid (FellPost 1 3 w (.panicked (wrongE b :: rest)) w2) := ⟨b, rest, rfl, h1, h2, Nat.le_trans HK.out.size h3, HK.out.trans h4 (fun _ _ h => h)⟩
  clear h1 h2 h3 h4
  go_wp2_with fail
  exact ⟨rfl, H.out⟩

theorem new2' (w : World) (o o2 : Obj) : ((w.alloc o).alloc o2).heap[w.heap.size]? = some o := by
  rw [Below.heap_alloc (w.alloc o) o2 w.heap.size (by simp)]
  exact heap_alloc_new w o
theorem results_two {P : Program} {fn : Func} {p q : Tmp} {ty tz : TypeId} (h : fn.results = #[.cell p ty, .cell q tz]) (tmps : Array Value) (w : World) (g g2 : Nat) (t t2 : TypeId) (cs : Array Value) (u : Value) (fr fr2 : Nat × Nat) (d d2 : TypeDesc)
    (hp : tmps.getD p undef = .pointer (some ⟨g, 0, none⟩)) (hq : tmps.getD q undef = .pointer (some ⟨g2, 0, none⟩)) (hg : w.heap[g]? = some (.cells cs t fr)) (hg2 : w.cell? ⟨g2, 0, none⟩ = some u)
    (hu : P.underlying ty = some d) (hd : (match d with | .struct _ | .array _ _ => true | _ => false) = true) (hi : (P.info? ty).map (·.size) = some cs.size) (hl : (loadVar tz ⟨g2, 0, none⟩).run P w = .ok u w) :
    (results fn tmps).run P w = .ok (.tuple #[.agg cs, u]) w := by
  have hp' : tmps[p]?.getD undef = .pointer (some ⟨g, 0, none⟩) := by simpa using hp
  have hq' : tmps[q]?.getD undef = .pointer (some ⟨g2, 0, none⟩) := by simpa using hq
  simp [results, h, hp', hq', asAddr, run_loadVar_row w g t ty cs fr d hg hu hd hi, hl]

set_option maxRecDepth 100000 in
set_option maxHeartbeats 1000000 in
theorem caught1_any (w : World) (hT : Tabs w) : Calls Tryd.prog 25 #[.func (.func 43) #[] #[]] w fun e w' => e = .returned (.tuple #[.agg #[.int .i64 1, .int .i64 3], .bool true]) ∧ Keeps [] w w' := by
  have HT := hid hT
  clear hT
  have hmf : ∀ (fn : Fn) (first cap : Array Value) (w : World), (Instr.makeFunc fn first cap).run Tryd.prog w = .ok (.func fn first cap) w := fun _ _ _ _ => rfl
  go_enter_defers Tryd.func25, Tryd.ntmps25
  go_wp2_with fail
  refine (awake1_any _ (HT.out.k (by exact Keeps.K))).mono ?_
  rintro e w1 ⟨b, rest, rfl, h1, h2, h3, h4⟩
  have hp : w1.heap[w.heap.size]? = some (.cells #[.int .i64 0, .int .i64 0] 43 (0, 0)) := (h4.block w.heap.size (by simp; omega) (by simp)).trans (new2' w _ _)
  have hq : w1.heap[w.heap.size + 1]? = some (.cells #[.bool false] 4 (0, 0)) := (h4.block (w.heap.size + 1) (by simp) (by simp)).trans (new_2 w _ _)
  have HK : Hid (Keeps [] w w1) := Keeps.trans (by exact Keeps.K) h4 (fun _ _ h => h)
  show bodyPostD _ _ _ (Exit.panic _) _ _
  refine leaves_cons (f := 52) (args := #[.pointer (some ⟨w.heap.size, 0, none⟩), .pointer (some ⟨w.heap.size + 1, 0, none⟩)]) (by simp) (by simp [go_sem]) ?_
  refine (catch_panicking w.heap.size (w.heap.size + 1) b 0 0 1 3 false rest _ hp hq (by omega) h2).mono ?_
  rintro e u' w'' ⟨rfl, rfl, g1, g2, g3⟩
  show Leaves _ _ _ _ [] (settle _) _
  unfold settle
  simp only [h1]
  refine ⟨_, results_two rfl _ _ w.heap.size (w.heap.size + 1) 43 4 _ _ (0, 0) (0, 0) _ .bool rfl rfl g1 (cell_of_block g2 0) Tryd.underlying43 rfl (by kernel_rfl) ?_, rfl, ?_⟩
  · simp [loadVar, go_sem, cell_of_block g2 0]
  · exact HK.out.trans (g3.mono (G := [w.heap.size, w.heap.size + 1]) (fun _ _ h => h)) (fun k hk hm => by simp at hm; omega)

theorem show_ab (w : World) (hT : Tabs w) : Calls Tryd.prog 18 #[.agg #[.int .i64 3, .int .i64 0, .string ⟨#[97, 34, 98]⟩]] w fun e w' => e = .returned (.string ⟨#[34, 97, 92, 34, 98, 34]⟩) ∧ Keeps [] w w' := by
  have h := vshow_any ⟨3, 0, ⟨#[97, 34, 98]⟩⟩ w hT (by decide) ⟨by decide, by decide⟩
  rw [show_a] at h
  exact h

set_option maxRecDepth 100000 in
set_option maxHeartbeats 1000000 in
theorem awake5_any (w : World) (hT : Tabs w) : Calls Tryd.prog 12 #[] w fun e w' => e = .returned (.bool true) ∧ Keeps [] w w' := by
  have HT := hid hT
  clear hT
  go_enter Tryd.func12, Tryd.ntmps12
  go_wp2_with fail
  refine (caught1_any _ HT.out).mono ?_
  rintro e w1 ⟨rfl, hk⟩
  have HK := hid hk
  clear hk
  go_wp2_with fail
  refine (show_ab _ (HT.out.k (by have kk := HK.out; exact Keeps.K))).mono ?_
  rintro e w2 ⟨rfl, hk⟩
  have HK2 : Hid (Keeps [] w w2) := Keeps.trans (by have kk := HK.out; exact Keeps.K) hk (fun _ _ h => h)
  clear hk
  have hs : ((⟨#[34, 97, 92, 34, 98, 34]⟩ : ByteArray).toList == (⟨#[34, 97, 92, 34, 98, 34]⟩ : ByteArray).toList) = true := by simp
  go_wp2_with fail
  go_ret
  exact ⟨rfl, HK2.out⟩

end Go.Proofs.YtnekkkppjofdlaaDoor
