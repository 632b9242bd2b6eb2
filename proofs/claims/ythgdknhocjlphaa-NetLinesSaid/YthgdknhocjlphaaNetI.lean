/- The document's net: Twice, Take. -/
import Derived.Test.YthgdknhocjlphaaNetH
namespace Go.Proofs.Ythgdknhocjlphaa
open Go Go.RowKit

set_option maxHeartbeats 400000 in
theorem rTwice_out (n : Nat) (i : Int) (a : Option Addr) (k c : Nat) (w : World) (hl : w.cell? ⟨n, 0, none⟩ = some (.slice a k c)) (hi : i < 0 ∨ (k : Int) ≤ i) :
    Calls Try.prog 24 #[.pointer (some ⟨n, 0, none⟩), .int .i64 i] w fun e w' => e = .returned (.int .i64 3) ∧ w' = w := by
  by_cases h0 : i < 0
  · go_enter Try.func24, Try.ntmps24
    go_wp2
    go_ret
    exact ⟨rfl, rfl⟩
  · have h1 : (k : Int) ≤ i := by omega
    go_enter Try.func24, Try.ntmps24
    go_wp2
    go_ret
    exact ⟨rfl, rfl⟩

set_option maxHeartbeats 400000 in
theorem rTwice_full (n room k : Nat) (j : Nat) (a : Option Addr) (c : Nat) (w : World) (h0 : w.cell? ⟨n, 0, none⟩ = some (.slice a k c)) (h1 : w.cell? ⟨n, 1, none⟩ = some (.int .i64 room)) (hj : j < k) (hfull : room ≤ k) :
    Calls Try.prog 24 #[.pointer (some ⟨n, 0, none⟩), .int .i64 j] w fun e w' => e = .returned (.int .i64 2) ∧ Keeps [] w w' := by
  have j0 : ¬ (j : Int) < 0 := by omega
  have j1 : (j : Int) < (k : Int) := by omega
  go_enter Try.func24, Try.ntmps24
  go_wp2
  go_quiet (fail)
  go_wp2
  go_ret
  exact ⟨rfl, (Keeps.refl _ _).drewN _⟩

set_option maxRecDepth 100000 in
set_option maxHeartbeats 1600000 in
theorem rTwice_in (n room k j g cap : Nat) (v : Value) (s : Bool) (bs : List UInt8) (cells : List Value) (w : World) (hb : w.heap[n]? = some (.cells #[.slice (some ⟨g, 0, none⟩) k cap, .int .i64 room] 57 (0, 0)))
    (hv : w.cell? ⟨g, j * 2, none⟩ = some v) (hs : w.cell? ⟨g, j * 2 + 1, none⟩ = some (.bool s)) (hr : Reads w 1 v bs.length (u8s bs)) (hbs : bs.length ≤ 140737488355328) (hown : w.ownsRow 0 59 2 (.slice (some ⟨g, 0, none⟩) k cap) k cells) (hn : n ≠ g) (hroom : k < room) (hk : k ≤ 100000) (hj : j < k) :
    Calls Try.prog 24 #[.pointer (some ⟨n, 0, none⟩), .int .i64 j] w fun e w' => e = .returned (.int .i64 0) ∧ Appended w w' n room k (.slice (some ⟨g, 0, none⟩) k cap) cells bs s := by
  obtain ⟨i0, hi, hz0, hz1, hz2⟩ := info_parts Try.infoM
  obtain ⟨i1, hi1, hy0, hy1, hy2⟩ := info_parts Try.infoU8
  have hlt : n < w.heap.size := (Array.getElem?_eq_some_iff.1 hb).1
  have hgl : g < w.heap.size := World.block_lt_of_cell? _ _ hv
  have h0 := cell_of_block hb 0
  have h1 := cell_of_block hb 1
  simp at h0 h1
  have j0 : (0 : Int) ≤ (j : Int) := Int.natCast_nonneg _
  have j1 : (j : Int) < (k : Int) := by omega
  have HF : Hid (w.frozen? ⟨n, 0, none⟩ = false) := frozen_of_row w n 0 _ _ hb
  have HN : Hid (n ∉ ownB (.slice (some ⟨g, 0, none⟩) k cap)) := by show _ ∉ _; simp [ownB, Value.ownBlock, hn]
  have HL : Hid (∀ b ∈ ownB (.slice (some ⟨g, 0, none⟩) k cap), b < w.heap.size) := fun b h => (ownB_ge hown b h).2
  have HG : Hid (∀ b ∈ ownB (.slice (some ⟨g, 0, none⟩) k cap), b = g) := fun b h => by simpa [ownB, Value.ownBlock] using h
  have HR := hid hr
  have HO := hid hown
  have HB := hid hb
  clear hr hown hb
  go_enter Try.func24, Try.ntmps24
  go_wp2
  go_quiet (fail)
  go_wp2
  refine Plan.wp_region_plan (fun w' => w'.cell? ⟨n, 0, none⟩ = some (.slice (some ⟨g, 0, none⟩) k cap) ∧ w'.cell? ⟨g, j * 2, none⟩ = some v ∧ w'.cell? ⟨g, j * 2 + 1, none⟩ = some (.bool s)) 25 [(true, 0), (true, 1), (true, 2), (true, 3), (true, 4), (true, 5), (true, 6), (true, 7), (true, 8), (true, 9), (true, 10), (true, 11), (true, 12), (true, 14), (true, 15), (true, 16), (true, 17), (true, 18), (true, 19), (true, 20), (true, 21), (false, 13), (true, 22), (false, 23), (false, 24)] (by kernel_rfl) (by kernel_rfl) (by kernel_rfl) (fun _ _ _ _ _ h => h) ?hS (fun hS => ?_)
  case hS => exact ⟨h0, hv, hs⟩
  simp only [Plan.pick, List.getElem?_cons_zero, List.getElem?_cons_succ, Option.getD_some, List.drop_succ_cons, List.drop_zero]
  repeat (first | (refine Plan.take (v := ?_) (a' := ?_) (by rfl) ?_ ?_ ?_; rotate_left 2; (· (intro w' hS'; (try dsimp only at hS'); go_simp; try with_reducible rfl)); (· (simp only [Act.put, List.setIfInBounds_toArray, List.set_cons_zero, List.set_cons_succ]; try with_reducible rfl))) | (refine Plan.pass (a' := ?_) (by rfl) ?_ ?_; rotate_left 1; (· (simp only [Act.put, List.setIfInBounds_toArray, List.set_cons_zero, List.set_cons_succ]; try with_reducible rfl))))
  refine Plan.step ?_
  go_wp2_with (refine wpList_append_reads _ (by rfl) _ _ _ (by rfl) w.heap.size 5 i1 (.int .u8 0) 1 1 Try.underlying26 hi1 hy0 hy1 hy2 rfl (by omega) (.slice none 0 0) (by rfl) 0 [] (World.ownsRow_nil _ _ _ _) v (by rfl) bs.length (u8s bs) (by exact HR.out) (u8s_one bs) (by omega) (le_maxLen (by omega)) (by exact Nat.le_refl _) ?_; intro av cv w1 ho hg _ _)
  simp only [Nat.zero_add, List.nil_append] at *
  have HK := hid ((Keeps.refl [] w).grown hg.out rfl rfl rfl rfl (fun _ h => by cases h))
  have c0 := HK.out.cellSome h0 (by simp)
  have c1 := HK.out.cellSome hv (by simp)
  have c2 := HK.out.cellSome hs (by simp)
  refine ⟨⟨c0, c1, c2⟩, ?_⟩
  repeat (first | (refine Plan.take (v := ?_) (a' := ?_) (by rfl) ?_ ?_ ?_; rotate_left 2; (· (intro w' hS'; (try dsimp only at hS'); go_simp; try with_reducible rfl)); (· (simp only [Act.put, List.setIfInBounds_toArray, List.set_cons_zero, List.set_cons_succ]; try with_reducible rfl))) | (refine Plan.pass (a' := ?_) (by rfl) ?_ ?_; rotate_left 1; (· (simp only [Act.put, List.setIfInBounds_toArray, List.set_cons_zero, List.set_cons_succ]; try with_reducible rfl))))
  refine Plan.step ?_
  go_wp2
  have HA : Hid (∀ F o, Keeps F w1 (w1.alloc o)) := fun F o => (Keeps.refl F w1).alloc o
  refine ⟨⟨(HA.out [] _).cellSome c0 (by simp), (HA.out [] _).cellSome c1 (by simp), (HA.out [] _).cellSome c2 (by simp)⟩, ?_⟩
  refine Plan.step ?_
  go_wp2_with (show wpList _ _ _ (⟨some 50, _, _, _, _, _⟩ :: _) _ _; go_must (refine wpList_append_reads _ (by rfl) _ _ _ (by rfl) 0 59 i0 _ 2 32 Try.underlying55 hi hz0 hz1 hz2 rfl (by omega) (.slice (some ⟨g, 0, none⟩) k cap) (by rfl) k cells (by exact ownsRow_keeps HO.out (HK.out.alloc _) (fun _ _ h => by cases h)) (.slice (some ⟨w1.heap.size, 0, none⟩) 1 1) (by rfl) 1 [.slice av bs.length cv, .bool s] (by exact Reads.ofBlock (heap_alloc_new w1 _) rfl (by decide)) (by simp [Value.oneCell']) (by omega) (le_maxLen (by omega)) (Nat.zero_le _) ?_; intro g' cap' w2 hown1 hgrow hat hold))
  have HK2 := hid ((HK.out.alloc (.cells #[.slice av bs.length cv, .bool s] 59)).mono (G := ownB (.slice (some ⟨g, 0, none⟩) k cap)) (fun _ _ h => by cases h) |>.grown hgrow.out rfl rfl rfl rfl (fun j h => .inl (mem_ownB.2 h)))
  have k0 := HK2.out.cellSome h0 HN.out
  have f2 : w2.frozen? ⟨n, 0, none⟩ = false := (HK2.out.frozen hlt HN.out).trans HF.out
  have HE : Hid (∀ i u, i < k * 2 → w.cell? ⟨g, i, none⟩ = some u → w2.cell? ⟨g, i, none⟩ = some u) := fun i u hi hu => hold.out g i u rfl (by rw [← HO.out.cellAt i hi]; exact hu)
  refine ⟨⟨k0, HE.out _ _ (by omega) hv, HE.out _ _ (by omega) hs⟩, ?_⟩
  obtain ⟨g'', rfl⟩ : ∃ g'', g' = some ⟨g'', 0, none⟩ := by
    obtain ⟨g'', c'', h, _⟩ := hown1.out.form (by omega)
    exact ⟨g'', by simpa using congrArg (fun v => match v with | .slice a _ _ => a | _ => none) h⟩
  refine Plan.fin ?_
  go_wp2
  go_ret
  exact ⟨rfl, appended_close HB.out HN.out HL.out HK.out ho.out hgrow.out hown1.out (H := w1.heap.size + 1) (by have := hat.out; simp only [Value.ownBlock, World.size_alloc] at this ⊢; rcases this with h | h; exact .inl (by simpa using h.symm); exact .inr (by simpa using h)) (by omega)⟩

end Go.Proofs.Ythgdknhocjlphaa
