/- The document's net: Take. -/
import Derived.Test.YthgdknhocjlphaaNetI
namespace Go.Proofs.Ythgdknhocjlphaa
open Go Go.RowKit

set_option maxHeartbeats 400000 in
theorem rTake_out (n : Nat) (i : Int) (a : Option Addr) (k c : Nat) (w : World) (hl : w.cell? ⟨n, 0, none⟩ = some (.slice a k c)) (hi : i < 0 ∨ (k : Int) ≤ i) :
    Calls Try.prog 23 #[.pointer (some ⟨n, 0, none⟩), .int .i64 i] w fun e w' => e = .returned (.tuple #[.slice none 0 0, .bool false]) ∧ w' = w := by
  by_cases h0 : i < 0
  · go_enter Try.func23, Try.ntmps23
    go_wp2
    go_ret2
    exact ⟨rfl, rfl⟩
  · have h1 : (k : Int) ≤ i := by omega
    go_enter Try.func23, Try.ntmps23
    go_wp2
    go_ret2
    exact ⟨rfl, rfl⟩

/-- A piece of an own row, read. -/
theorem Reads.piece {w : World} {base e size g n cap : Nat} {xs : List Value} (h : w.ownsRow base e size (.slice (some ⟨g, 0, none⟩) n cap) n xs) (i m c : Nat) (a : Option Addr) (him : i + m ≤ n) (hc : m ≤ c) (hcm : c ≤ maxLen) (ha : 0 < m → a = some ⟨g, i * size, none⟩) :
    Reads w size (.slice a m c) m ((xs.drop (i * size)).take (m * size)) := by
  have hl : xs.length = n * size := h.1
  have hg : g < w.heap.size := (h.lt g rfl).2
  have h1 : (i + m) * size ≤ n * size := Nat.mul_le_mul_right _ him
  rw [Nat.add_mul] at h1
  refine ⟨by rw [List.length_take, List.length_drop, hl]; omega, ?_⟩
  rcases Nat.eq_zero_or_pos m with rfl | hp
  · exact .inl ⟨rfl, _, _, rfl⟩
  · refine .inr ⟨hp, g, i * size, c, by rw [ha hp], hc, hcm, hg, fun j u hu => ?_⟩
    rw [List.getElem?_take] at hu
    split at hu
    · rw [List.getElem?_drop] at hu
      rw [h.cellAt _ (by omega)]; exact hu
    · cases hu

set_option maxRecDepth 100000 in
set_option maxHeartbeats 1600000 in
theorem rTake_in (n room q j g cap : Nat) (bv : Value) (cells : List Value) (w : World) (hb : w.heap[n]? = some (.cells #[.slice (some ⟨g, 0, none⟩) (q + 1) cap, .int .i64 room] 57 (0, 0)))
    (hv : w.cell? ⟨g, j * 2, none⟩ = some bv) (hown : w.ownsRow 0 59 2 (.slice (some ⟨g, 0, none⟩) (q + 1) cap) (q + 1) cells) (h1 : ∀ u ∈ cells, u.oneCell' = true) (hqc : q + 1 ≤ cap) (hcm : cap ≤ maxLen) (hk : q < 100000) (hj : j < q + 1) :
    Calls Try.prog 23 #[.pointer (some ⟨n, 0, none⟩), .int .i64 j] w fun e w' => e = .returned (.tuple #[bv, .bool true]) ∧ ∃ a c, w'.heap[n]? = some (.cells #[.slice a q c, .int .i64 room] 57 (0, 0)) ∧
      w'.ownsRow w.heap.size 59 2 (.slice a q c) q (cells.take (j * 2) ++ cells.drop ((j + 1) * 2)) ∧ Keeps [n] w w' := by
  obtain ⟨i0, hi, hz0, hz1, hz2⟩ := info_parts Try.infoM
  have hlt : n < w.heap.size := (Array.getElem?_eq_some_iff.1 hb).1
  have h0 := cell_of_block hb 0
  simp at h0
  have hg : g < w.heap.size := World.block_lt_of_cell? _ _ hv
  have hcl := hown.1
  have R1 : Hid (Reads w 2 (.slice (some ⟨g, 0, none⟩) j cap) j (cells.take (j * 2))) := by
    have := Reads.piece hown 0 j cap (some ⟨g, 0, none⟩) (by omega) (by omega) hcm (fun _ => by simp)
    show Reads _ _ _ _ _
    simpa using this
  have R2 : Hid (∀ a c, q - j ≤ c → c ≤ maxLen → (0 < q - j → a = some ⟨g, (j + 1) * 2, none⟩) → Reads w 2 (.slice a (q - j) c) (q - j) (cells.drop ((j + 1) * 2))) := fun a c h1 h2 h3 => by
    have := Reads.piece hown (j + 1) (q - j) c a (by omega) h1 h2 h3
    rwa [List.take_of_length_le (by rw [List.length_drop, hcl]; omega)] at this
  have HF : Hid (w.frozen? ⟨n, 0, none⟩ = false) := frozen_of_row w n 0 _ _ hb
  have HB := hid hb
  have H1 := hid h1
  have HM := hid hcm
  have hcm' : (cap : Int) ≤ 9223372036854775807 := by unfold maxLen at hcm; omega
  have HL : Hid (j + (q - j) = q) := by show _ = _; omega
  have HO := hid hown
  clear hb h1 hown hcm hcl
  have j0 : (0 : Int) ≤ (j : Int) := Int.natCast_nonneg _
  have j1 : (j : Int) < (q : Int) + 1 := by omega
  have j2 : (q : Int) + 1 ≤ (cap : Int) := by omega
  have j3 : (0 : Int) ≤ (j : Int) + 1 := by omega
  have j4 : (j : Int) + 1 ≤ (q : Int) + 1 := by omega
  have j5 : (j : Int) ≤ (q : Int) + 1 := by omega
  have j6 : (j : Int) ≤ (cap : Int) := by omega
  have j7 : j ≤ cap := by omega
  have jc : ¬ cap = j := by omega
  have jk : j ≤ q + 1 := by omega
  have jk1 : j + 1 ≤ q + 1 := by omega
  obtain ⟨x, hje, HJ⟩ : ∃ x : Prop, ((cap = j + 1) ↔ x) ∧ Hid (x = True ∨ x = False) := by
    rcases Decidable.em (cap = j + 1) with h | h
    · exact ⟨True, by simp [h], .inl rfl⟩
    · exact ⟨False, by simp [h], .inr rfl⟩
  rcases HJ.out with rfl | rfl
  all_goals
    have HJE := hid hje
    go_enter Try.func23, Try.ntmps23
    go_wp2
    have hw : IntKind.i64.wrap ((j : Int) + 1) = (j : Int) + 1 := IntWalk.i64_in _ (by omega)
    have ht : ((j : Int) + 1).toNat = j + 1 := by omega
    refine Plan.wp_region_plan (fun w' => w'.cell? ⟨n, 0, none⟩ = some (.slice (some ⟨g, 0, none⟩) (q + 1) cap)) 16 [(true, 0), (true, 1), (true, 2), (true, 3), (true, 4), (true, 5), (true, 6), (true, 8), (true, 9), (true, 10), (true, 11), (true, 12), (true, 13), (true, 14), (false, 7), (false, 15)] (by kernel_rfl) (by kernel_rfl) (by kernel_rfl) (fun _ _ _ _ _ h => h) ?_ (fun hS => ?_)
    (· exact h0)
    simp only [Plan.pick, List.getElem?_cons_zero, List.getElem?_cons_succ, Option.getD_some, List.drop_succ_cons, List.drop_zero]
    repeat (first | (refine Plan.take (v := ?_) (a' := ?_) (by rfl) ?_ ?_ ?_; rotate_left 2; (· (intro w' hS'; (try dsimp only at hS'); go_simp; try with_reducible rfl)); (· (simp only [Act.put, List.setIfInBounds_toArray, List.set_cons_zero, List.set_cons_succ]; try with_reducible rfl))) | (refine Plan.pass (a' := ?_) (by rfl) ?_ ?_; rotate_left 1; (· (simp only [Act.put, List.setIfInBounds_toArray, List.set_cons_zero, List.set_cons_succ]; try with_reducible rfl))))
    clear hw ht
    refine Plan.step ?_
    go_wp2_with (refine wpList_append_reads _ (by rfl) _ _ _ (by rfl) w.heap.size 59 i0 _ 2 32 Try.underlying55 hi hz0 hz1 hz2 rfl (by omega) (.slice none 0 0) (by rfl) 0 [] (World.ownsRow_nil _ _ _ _) (.slice (some ⟨g, 0, none⟩) j cap) (by rfl) j (cells.take (j * 2)) (by exact R1.out) (fun u hu => H1.out u (List.mem_of_mem_take hu)) (by omega) (le_maxLen (by omega)) (by exact Nat.le_refl _) ?_; intro av cv w1 ho hgr _ _)
    simp only [Nat.zero_add, List.nil_append] at *
    have HK := hid ((Keeps.refl [] w).grown hgr.out rfl rfl rfl rfl (fun _ h => by cases h))
    refine ⟨HK.out.cellSome h0 (by simp), ?_⟩
    have hsz := HK.out.size
    refine Plan.step ?_
    go_wp2_with (show wpList _ _ _ (⟨some 41, _, _, _, _, _⟩ :: _) _ _; go_must (refine wpList_append_reads _ (by rfl) _ _ _ (by rfl) w.heap.size 59 i0 _ 2 32 Try.underlying55 hi hz0 hz1 hz2 rfl (by omega) (.slice av j cv) (by rfl) j (cells.take (j * 2)) ho.out (.slice _ _ _) (by rfl) (q - j) (cells.drop ((j + 1) * 2)) (by exact (R2.out _ _ (by first | omega | (have hh := HJE.out; simp at hh; omega)) (by first | exact Nat.zero_le _ | exact Nat.le_trans (Nat.sub_le _ _) HM.out | exact HM.out) (fun h => by first | rfl | (exfalso; have hh := HJE.out; simp at hh; omega))).keeps HK.out (fun _ _ h => by cases h)) (fun u hu => H1.out u (List.mem_of_mem_drop hu)) (by omega) (le_maxLen (by omega)) (by exact hsz) ?_; intro av2 cv2 w2 ho2 hgr2 _ _))
    have HG2 : Hid (∀ b, b ∈ ownB (.slice av j cv) → w.heap.size ≤ b) := fun b hb => (ownB_ge ho.out b hb).1
    have K2 : Hid (Keeps [] w w2) := HK.out.grown hgr2.out rfl rfl rfl rfl (fun k h => .inr (HG2.out k (mem_ownB.2 h)))
    have k0 := K2.out.cellSome h0 (by simp)
    have f2 : w2.frozen? ⟨n, 0, none⟩ = false := (K2.out.frozen hlt (by simp)).trans HF.out
    refine ⟨k0, ?_⟩
    refine Plan.fin ?_
    go_wp2
    go_ret2
    have KS : Keeps [n] w2 (w2.setCell ⟨n, 0, none⟩ (.slice av2 (j + (q - j)) cv2)) := (Keeps.refl _ _).setCell (.inl (by simp)) _
    refine ⟨rfl, av2, cv2, ?_, ?_, (K2.out.mono (G := [n]) (fun _ _ h => by cases h)).setCell (.inl (by simp)) _⟩
    · rw [heap_setCell_same w2 n 0 _ _ _ ((K2.out.block n hlt (by simp)).trans HB.out), HL.out]; rfl
    · have h3 := ho2.out
      have h4 := ownsRow_keeps h3 KS (fun b hb hb' => by have := (ownB_ge h3 b hb).1; simp at hb'; omega)
      rw [HL.out] at h4 ⊢
      exact h4

end Go.Proofs.Ythgdknhocjlphaa
