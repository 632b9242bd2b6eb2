/- The document's net: Send, Twice. -/
import Derived.Test.YthgdknhocjlphaaNetG
namespace Go.Proofs.Ythgdknhocjlphaa
open Go Go.RowKit

theorem Try.infoM : (Try.prog.info? 59).map (fun i => (i.zero, i.size, i.bytes)) = some (some (.agg #[.slice none 0 0, .bool false]), 2, 32) := by kernel_rfl

/-- What is left behind 'L = append(L, M{copy, s})'. -/
def Appended (w w' : World) (n room k : Nat) (lv : Value) (cells : List Value) (bs : List UInt8) (s : Bool) : Prop :=
  ∃ g cap bv', w'.heap[n]? = some (.cells #[.slice (some ⟨g, 0, none⟩) (k + 1) cap, .int .i64 room] 57 (0, 0)) ∧
      w'.ownsRow 0 59 2 (.slice (some ⟨g, 0, none⟩) (k + 1) cap) (k + 1) (cells ++ [bv', .bool s]) ∧ w'.ownsRow w.heap.size 5 1 bv' bs.length (u8s bs) ∧ Keeps (n :: ownB lv) w w' ∧ (lv.ownBlock = some g ∨ w.heap.size ≤ g) ∧ g ∉ ownB bv'

/-- From what the walk knows at its end. -/
theorem appended_close {w w1 w2 : World} {n room k g cap H : Nat} {lv bv : Value} {cells : List Value} {bs : List UInt8} {s : Bool} {o : Obj} (hb : w.heap[n]? = some (.cells #[lv, .int .i64 room] 57 (0, 0))) (hn : n ∉ ownB lv) (hlv : ∀ b ∈ ownB lv, b < w.heap.size)
    (K1 : Keeps [] w w1) (ho : w1.ownsRow w.heap.size 5 1 bv bs.length (u8s bs)) (hgrow : (w1.alloc o).grownBy w2 lv.ownBlock) (hown : w2.ownsRow 0 59 2 (.slice (some ⟨g, 0, none⟩) (k + 1) cap) (k + 1) (cells ++ [bv, .bool s]))
    (hat : lv.ownBlock = some g ∨ g = H) (hH : w1.heap.size < H) : Appended w (w2.setCell ⟨n, 0, none⟩ (.slice (some ⟨g, 0, none⟩) (k + 1) cap)) n room k lv cells bs s := by
  have hlt : n < w.heap.size := (Array.getElem?_eq_some_iff.1 hb).1
  have K2 : Keeps (ownB lv) w w2 := (K1.alloc o).mono (G := ownB lv) (fun _ _ h => by cases h) |>.grown hgrow rfl rfl rfl rfl (fun j h => .inl (mem_ownB.2 h))
  have K12 : Keeps (ownB lv) w1 w2 := ((Keeps.refl (ownB lv) w1).alloc o).grown hgrow rfl rfl rfl rfl (fun j h => .inl (mem_ownB.2 h))
  have KS : Keeps [n] w2 (w2.setCell ⟨n, 0, none⟩ (.slice (some ⟨g, 0, none⟩) (k + 1) cap)) := (Keeps.refl _ _).setCell (.inl (by simp)) _
  have hs1 := K1.size
  have hng : n ≠ g := by
    rcases hat with h | h
    · intro e; subst e; exact hn (mem_ownB.2 h)
    · omega
  refine ⟨g, cap, bv, ?_, ownsRow_keeps hown KS (fun b hb => ?_), ?_, (K2.mono (G := n :: ownB lv) (fun _ _ h => List.mem_cons_of_mem _ h)).setCell (.inl (by simp)) _, hat.imp_right (by omega), fun h => ?_⟩
  · rw [heap_setCell_same w2 n 0 _ _ _ ((K2.block n hlt hn).trans hb)]; rfl
  · have e := mem_ownB.1 hb
    simp [Value.ownBlock] at e
    subst e
    simp; omega
  · refine ownsRow_keeps (ownsRow_keeps ho K12 (fun b hb hb' => ?_)) KS (fun b hb hb' => ?_)
    · have := (ownB_ge ho b hb).1; have := hlv b hb'; omega
    · have := (ownB_ge ho b hb).1; simp at hb'; omega
  · have h1 := ownB_ge ho g h
    rcases hat with h' | h'
    · have := hlv g (mem_ownB.2 h'); omega
    · omega

set_option maxHeartbeats 400000 in
theorem rSend_empty (n : Nat) (a : Option Addr) (c : Nat) (w : World) :
    Calls Try.prog 26 #[.pointer (some ⟨n, 0, none⟩), .slice a 0 c] w fun e w' => e = .returned (.int .i64 1) ∧ w' = w := by
  go_enter Try.func26, Try.ntmps26
  go_wp2
  go_ret
  exact ⟨rfl, rfl⟩

set_option maxHeartbeats 400000 in
theorem rSend_full (n room k : Nat) (a a' : Option Addr) (c m c' : Nat) (w : World) (h0 : w.cell? ⟨n, 0, none⟩ = some (.slice a k c)) (h1 : w.cell? ⟨n, 1, none⟩ = some (.int .i64 room)) (hm : m ≠ 0) (hfull : room ≤ k) :
    Calls Try.prog 26 #[.pointer (some ⟨n, 0, none⟩), .slice a' m c'] w fun e w' => e = .returned (.int .i64 2) ∧ Keeps [] w w' := by
  have hb : ((m : Int) == 0) = false := by simpa using hm
  go_enter Try.func26, Try.ntmps26
  go_wp2
  go_quiet (fail)
  go_wp2
  go_ret
  exact ⟨rfl, (Keeps.refl _ _).drewN _⟩

set_option maxRecDepth 100000 in
set_option maxHeartbeats 1600000 in
theorem rSend_room (n room k : Nat) (lv : Value) (a' : Option Addr) (c' : Nat) (bs : List UInt8) (cells : List Value) (w : World) (hb : w.heap[n]? = some (.cells #[lv, .int .i64 room] 57 (0, 0)))
    (hr : Reads w 1 (.slice a' bs.length c') bs.length (u8s bs)) (hbs : bs.length ≤ 140737488355328) (hown : w.ownsRow 0 59 2 lv k cells) (hn : n ∉ ownB lv) (hroom : k < room) (hk : k ≤ 100000) (hm : bs.length ≠ 0) :
    Calls Try.prog 26 #[.pointer (some ⟨n, 0, none⟩), .slice a' bs.length c'] w fun e w' => e = .returned (.int .i64 0) ∧ Appended w w' n room k lv cells bs false := by
  obtain ⟨i0, hi, hz0, hz1, hz2⟩ := info_parts Try.infoM
  obtain ⟨i1, hj, hy0, hy1, hy2⟩ := info_parts Try.infoU8
  obtain ⟨a, c, rfl⟩ := len_form hown
  have hlt : n < w.heap.size := (Array.getElem?_eq_some_iff.1 hb).1
  have h0 := cell_of_block hb 0
  have h1 := cell_of_block hb 1
  simp at h0 h1
  have hm' : ((bs.length : Int) == 0) = false := by simp; intro e; rw [e] at hm; exact hm rfl
  have HF : Hid (w.frozen? ⟨n, 0, none⟩ = false) := frozen_of_row w n 0 _ _ hb
  have HL : Hid (∀ b ∈ ownB (.slice a k c), b < w.heap.size) := fun b h => (ownB_ge hown b h).2
  have HR := hid hr
  have HO := hid hown
  have HB := hid hb
  clear hr hown hb
  go_enter Try.func26, Try.ntmps26
  go_wp2
  go_quiet (fail)
  go_wp2
  refine Plan.wp_region_plan (fun w' => w'.cell? ⟨n, 0, none⟩ = some (.slice a k c) ∧ w'.cell? ⟨n, 1, none⟩ = some (.int .i64 room)) 10 [(true, 0), (true, 1), (true, 2), (true, 3), (true, 4), (true, 5), (false, 6), (true, 7), (false, 8), (false, 9)] (by kernel_rfl) (by kernel_rfl) (by kernel_rfl) (fun _ _ _ _ _ h => h) ?hS (fun hS => ?_)
  case hS => exact ⟨h0, h1⟩
  simp only [Plan.pick, List.getElem?_cons_zero, List.getElem?_cons_succ, Option.getD_some, List.drop_succ_cons, List.drop_zero]
  repeat (first | (refine Plan.take (v := ?_) (a' := ?_) (by rfl) ?_ ?_ ?_; rotate_left 2; (· (intro w' hS'; (try dsimp only at hS'); go_simp; try with_reducible rfl)); (· (simp only [Act.put, List.setIfInBounds_toArray, List.set_cons_zero, List.set_cons_succ]; try with_reducible rfl))) | (refine Plan.pass (a' := ?_) (by rfl) ?_ ?_; rotate_left 1; (· (simp only [Act.put, List.setIfInBounds_toArray, List.set_cons_zero, List.set_cons_succ]; try with_reducible rfl))))
  refine Plan.step ?_
  go_wp2_with (refine wpList_append_reads _ (by rfl) _ _ _ (by rfl) w.heap.size 5 i1 (.int .u8 0) 1 1 Try.underlying26 hj hy0 hy1 hy2 rfl (by omega) (.slice none 0 0) (by rfl) 0 [] (World.ownsRow_nil _ _ _ _) (.slice a' bs.length c') (by rfl) bs.length (u8s bs) (by exact HR.out) (u8s_one bs) (by omega) (le_maxLen (by omega)) (by exact Nat.le_refl _) ?_; intro av cv w1 ho hg _ _)
  simp only [Nat.zero_add, List.nil_append] at *
  have HK := hid ((Keeps.refl [] w).grown hg.out rfl rfl rfl rfl (fun _ h => by cases h))
  have c0 := HK.out.cellSome h0 (by simp)
  have c1 := HK.out.cellSome h1 (by simp)
  refine ⟨⟨c0, c1⟩, ?_⟩
  repeat (first | (refine Plan.take (v := ?_) (a' := ?_) (by rfl) ?_ ?_ ?_; rotate_left 2; (· (intro w' hS'; (try dsimp only at hS'); go_simp; try with_reducible rfl)); (· (simp only [Act.put, List.setIfInBounds_toArray, List.set_cons_zero, List.set_cons_succ]; try with_reducible rfl))) | (refine Plan.pass (a' := ?_) (by rfl) ?_ ?_; rotate_left 1; (· (simp only [Act.put, List.setIfInBounds_toArray, List.set_cons_zero, List.set_cons_succ]; try with_reducible rfl))))
  refine Plan.step ?_
  go_wp2
  have HA : Hid (∀ F o, Keeps F w1 (w1.alloc o)) := fun F o => (Keeps.refl F w1).alloc o
  refine ⟨⟨(HA.out [] _).cellSome c0 (by simp), (HA.out [] _).cellSome c1 (by simp)⟩, ?_⟩
  refine Plan.step ?_
  go_wp2_with (at_builtin; refine wpList_append_lies _ (by rfl) _ _ _ (by rfl) 0 59 i0 _ 2 32 Try.underlying55 hi hz0 hz1 hz2 rfl (by omega) (.slice a k c) k cells (by rfl) (by exact ownsRow_keeps HO.out (HK.out.alloc _) (fun _ _ h => by cases h)) ⟨w1.heap.size, 0, none⟩ 1 1 [.slice av bs.length cv, .bool false] (by rfl) (by rfl) (World.news_of_block (cs := #[.slice av bs.length cv, .bool false]) (t := 59) (fr := (0, 0)) (heap_alloc_new w1 _)) (by simp [Value.oneCell']) (by omega) (le_maxLen (by omega)) (by omega) (by simp) (w1.heap.size + 1) (by simp) ?_; intro g cap w2 hown1 hgrow hat hlt2)
  have HK2 := hid ((HK.out.alloc (.cells #[.slice av bs.length cv, .bool false] 59)).mono (G := ownB (.slice a k c)) (fun _ _ h => by cases h) |>.grown hgrow rfl rfl rfl rfl (fun j h => .inl (mem_ownB.2 h)))
  have k0 := HK2.out.cellSome h0 hn
  have f2 : w2.frozen? ⟨n, 0, none⟩ = false := (HK2.out.frozen hlt hn).trans HF.out
  refine ⟨⟨k0, HK2.out.cellSome h1 hn⟩, ?_⟩
  refine Plan.fin ?_
  go_wp2
  go_ret
  exact ⟨rfl, appended_close HB.out hn HL.out HK.out ho.out hgrow hown1 hat (by omega)⟩

end Go.Proofs.Ythgdknhocjlphaa
