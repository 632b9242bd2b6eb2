/- (*net.Net).send, walked. -/
import Derived.Test.YthgdknhocjlphaaNetA
import Derived.Test.YthgdknhocjlphaaPlan
namespace Go.Proofs.Ythgdknhocjlphaa
open Go Go.RowKit
attribute [local go_sem ↓] Go.wp_at_zero Go.wp_at_succ

theorem Try.infoOne : (Try.prog.info? 52).map (fun i => (i.zero, i.size, i.bytes)) = some (some (.agg #[.slice none 0 0, .bool false]), 2, 32) := by kernel_rfl

set_option maxHeartbeats 400000 in
theorem send_full (n room k : Nat) (lv : Value) (x : Value) (cells : List Value) (w : World) (hb : w.heap[n]? = some (.cells #[.int .i64 room, lv] 49 (0, 0)))
    (hx : ∃ c0 c1, x = .agg #[c0, c1]) (hown : w.ownsRow 0 52 2 lv k cells) (hfull : room ≤ k) :
    Calls Try.prog 20 #[.pointer (some ⟨n, 0, none⟩), x] w fun e w' => e = .returned (.int .i64 2) ∧ Keeps [] w w' := by
  obtain ⟨a, c, rfl⟩ := len_form hown
  obtain ⟨c0, c1, rfl⟩ := hx
  have hlt : n < w.heap.size := (Array.getElem?_eq_some_iff.1 hb).1
  have h0 := cell_of_block hb 0
  have h1 := cell_of_block hb 1
  simp at h0 h1
  clear hown hb
  go_enter Try.func20, Try.ntmps20
  go_wp2
  go_quiet (fail)
  go_wp2
  go_ret
  exact ⟨rfl, ((Keeps.refl _ _).alloc _).drewN _⟩


set_option maxRecDepth 100000 in
set_option maxHeartbeats 1600000 in
theorem send_room (n room k : Nat) (lv bv : Value) (s : Bool) (bs : List UInt8) (cells : List Value) (w : World) (hb : w.heap[n]? = some (.cells #[.int .i64 room, lv] 49 (0, 0)))
    (hr : Reads w 1 bv bs.length (u8s bs)) (hbs : bs.length ≤ 140737488355328) (_hbv : ∀ b, b ∈ ownB bv → b < w.heap.size) (hown : w.ownsRow 0 52 2 lv k cells) (hn : n ∉ ownB lv) (hroom : k < room) (hk : k ≤ 100000) :
    Calls Try.prog 20 #[.pointer (some ⟨n, 0, none⟩), .agg #[bv, .bool s]] w fun e w' => e = .returned (.int .i64 0) ∧ ∃ g cap bv', w'.heap[n]? = some (.cells #[.int .i64 room, .slice (some ⟨g, 0, none⟩) (k + 1) cap] 49 (0, 0)) ∧
      w'.ownsRow 0 52 2 (.slice (some ⟨g, 0, none⟩) (k + 1) cap) (k + 1) (cells ++ [bv', .bool s]) ∧ w'.ownsRow w.heap.size 5 1 bv' bs.length (u8s bs) ∧ Keeps (n :: ownB lv) w w' ∧ (lv.ownBlock = some g ∨ w.heap.size ≤ g) ∧ g ∉ ownB bv' := by
  obtain ⟨i0, hi, hz0, hz1', hz2⟩ := info_parts Try.infoOne
  obtain ⟨a, c, rfl⟩ := len_form hown
  have hlt : n < w.heap.size := (Array.getElem?_eq_some_iff.1 hb).1
  have h0 := cell_of_block hb 0
  have h1 := cell_of_block hb 1
  simp at h0 h1
  have HF : Hid (w.frozen? ⟨n, 1, none⟩ = false) := frozen_of_row w n 1 _ _ hb
  have F1 : Hid (∀ o, (w.alloc o).frozen? ⟨n, 1, none⟩ = false) := fun o => by rw [World.frozen?_alloc_past _ _ _ hlt]; exact frozen_of_row w n 1 _ _ hb
  have HR : Hid (Reads (w.alloc (.cells #[bv, .bool s] 52)) 1 bv bs.length (u8s bs)) := hr.keeps ((Keeps.refl [] w).alloc _) (fun _ _ h => by cases h)
  have HO := hid hown
  have HN1 : Hid (some n ≠ (Value.slice a k c).ownBlock) := fun e => hn (mem_ownB.2 e.symm)
  have HN2 : Hid (some w.heap.size ≠ (Value.slice a k c).ownBlock) := fun e => by have := (hown.lt _ e.symm).2; omega
  have HB := hid hb
  clear hr hown hb
  go_enter Try.func20, Try.ntmps20
  go_wp2
  go_quiet (fail)
  go_wp2
  have F2 : ∀ q, ((w.alloc (.cells #[bv, .bool s] 52)).drewN q).frozen? ⟨n, 1, none⟩ = false := fun _ => F1.out _
  refine Plan.wp_region_plan (fun w' => w'.cell? ⟨n, 0, none⟩ = some (.int .i64 room) ∧ w'.cell? ⟨n, 1, none⟩ = some (.slice a k c) ∧ w'.cell? ⟨w.heap.size, 0, none⟩ = some bv ∧ w'.cell? ⟨w.heap.size, 1, none⟩ = some (.bool s)) 13 [(true, 0), (true, 1), (true, 2), (true, 3), (true, 4), (true, 5), (true, 6), (true, 8), (true, 9), (false, 7), (true, 10), (false, 11), (false, 12)] (by kernel_rfl) (by kernel_rfl) (by kernel_rfl) (fun _ _ _ _ _ h => h) ?hS (fun hS => ?_)
  case hS => simp [*, World.cell?_alloc_some]
  simp only [Plan.pick, List.getElem?_cons_zero, List.getElem?_cons_succ, Option.getD_some, List.drop_succ_cons, List.drop_zero]
  repeat (first | (refine Plan.take (v := ?_) (a' := ?_) (by rfl) ?_ ?_ ?_; rotate_left 2; (· (intro w' hS'; (try dsimp only at hS'); go_simp; try with_reducible rfl)); (· (simp only [Act.put, List.setIfInBounds_toArray, List.set_cons_zero, List.set_cons_succ]; try with_reducible rfl))) | (refine Plan.pass (a' := ?_) (by rfl) ?_ ?_; rotate_left 1; (· (simp only [Act.put, List.setIfInBounds_toArray, List.set_cons_zero, List.set_cons_succ]; try with_reducible rfl))))
  refine Plan.step ?_
  go_wp2_with (go_at_call 22; refine (own_any bv bs _ (by exact HR.out) hbs).mono ?_; rintro e w1 ⟨av, cv, rfl, ho, hg⟩)
  have HK := hid (((Keeps.refl [] w).alloc (.cells #[bv, .bool s] 52)).grown hg rfl rfl rfl rfl (fun _ h => by cases h))
  have hz1 : w.heap.size + 1 ≤ w1.heap.size := by have := hg.size; simpa using this
  have c0 := HK.out.cellSome h0 (by simp)
  have c1 := HK.out.cellSome h1 (by simp)
  have b0 : w1.cell? ⟨w.heap.size, 0, none⟩ = some bv := by rw [hg.cell_far _ (by simp) (by simp)]; simp
  have b1 : w1.cell? ⟨w.heap.size, 1, none⟩ = some (.bool s) := by rw [hg.cell_far _ (by simp) (by simp)]; simp
  refine ⟨⟨c0, c1, b0, b1⟩, ?_⟩
  repeat (first | (refine Plan.take (v := ?_) (a' := ?_) (by rfl) ?_ ?_ ?_; rotate_left 2; (· (intro w' hS'; (try dsimp only at hS'); go_simp; try with_reducible rfl)); (· (simp only [Act.put, List.setIfInBounds_toArray, List.set_cons_zero, List.set_cons_succ]; try with_reducible rfl))) | (refine Plan.pass (a' := ?_) (by rfl) ?_ ?_; rotate_left 1; (· (simp only [Act.put, List.setIfInBounds_toArray, List.set_cons_zero, List.set_cons_succ]; try with_reducible rfl))))
  refine Plan.step ?_
  go_wp2
  have HA : Hid (∀ F o, Keeps F w1 (w1.alloc o)) := fun F o => (Keeps.refl F w1).alloc o
  refine ⟨⟨(HA.out [] _).cellSome c0 (by simp), (HA.out [] _).cellSome c1 (by simp), (HA.out [] _).cellSome b0 (by simp), (HA.out [] _).cellSome b1 (by simp)⟩, ?_⟩
  refine Plan.step ?_
  go_wp2_with (at_builtin; refine wpList_append_lies _ (by rfl) _ _ _ (by rfl) 0 52 i0 _ 2 32 Try.underlying47 hi hz0 hz1' hz2 rfl (by omega) (.slice a k c) k cells (by rfl) (by exact ownsRow_keeps HO.out (HK.out.alloc _) (fun _ _ h => by cases h)) ⟨w1.heap.size, 0, none⟩ 1 1 [.slice av bs.length cv, .bool s] (by rfl) (by rfl) (World.news_of_block (cs := #[.slice av bs.length cv, .bool s]) (t := 52) (fr := (0, 0)) (heap_alloc_new w1 _)) (by simp [Value.oneCell']) (by omega) (le_maxLen (by omega)) (by omega) (by simp) (w1.heap.size + 1) (by simp) ?_; intro g cap w2 hown1 hgrow hat hlt2)
  have HK2 := hid ((HK.out.alloc (.cells #[.slice av bs.length cv, .bool s] 52)).mono (G := ownB (.slice a k c)) (fun _ _ h => by cases h) |>.grown hgrow rfl rfl rfl rfl (fun j h => .inl (mem_ownB.2 h)))
  have HG := hid ((HA.out (ownB (.slice a k c)) (.cells #[.slice av bs.length cv, .bool s] 52)).grown hgrow rfl rfl rfl rfl (fun j h => .inl (mem_ownB.2 h)))
  have HN3 : Hid (w.heap.size ∉ ownB (.slice a k c)) := fun h => HN2.out (mem_ownB.1 h).symm
  have k1 := HK2.out.cellSome h1 hn
  have f2 : w2.frozen? ⟨n, 1, none⟩ = false := (HK2.out.frozen hlt hn).trans HF.out
  refine ⟨⟨HK2.out.cellSome h0 hn, k1, HG.out.cellSome b0 HN3.out, HG.out.cellSome b1 HN3.out⟩, ?_⟩
  refine Plan.fin ?_
  go_wp2
  go_ret
  have hng : n ≠ g := by
    rcases hat with h | h
    · intro e; subst e; exact hn (mem_ownB.2 h)
    · omega
  have HK3 := HK2.out.mono (G := n :: ownB (.slice a k c)) (fun _ _ h => List.mem_cons_of_mem _ h)
  have KS : Keeps [n] w2 (w2.setCell ⟨n, 1, none⟩ (.slice (some ⟨g, 0, none⟩) (k + 1) cap)) := (Keeps.refl _ _).setCell (.inl (by simp)) _
  have HK4 := HK3.setCell (p := ⟨n, 1, none⟩) (.inl (by simp)) (.slice (some ⟨g, 0, none⟩) (k + 1) cap)
  refine ⟨rfl, g, cap, .slice av bs.length cv, ?_, ownsRow_keeps hown1 KS (fun b hb => ?_), ?_, HK4, hat.imp_right (by omega), fun h => ?_⟩
  · rw [heap_setCell_same w2 n 1 _ _ _ ((HK2.out.block n hlt hn).trans HB.out)]
    rfl
  · have e := mem_ownB.1 hb
    simp [Value.ownBlock] at e
    subst e
    simp; omega
  · refine ownsRow_base (ownsRow_keeps (ownsRow_keeps ho ((HA.out _ (.cells #[.slice av bs.length cv, .bool s] 52)).grown hgrow rfl rfl rfl rfl (F := ownB (.slice a k c)) (fun j h => .inl (mem_ownB.2 h))) (fun b hb hb' => ?_)) KS (fun b hb => ?_)) (by simp)
    · have := (ownB_ge ho b hb).1
      have := (HO.out.lt b (mem_ownB.1 hb')).2
      simp at *; omega
    · have := (ownB_ge ho b hb).1
      simp at *; omega
  · have := (ownB_ge ho g h)
    simp at this
    rcases hat with h' | h'
    · have := (HO.out.lt g h').2
      omega
    · omega

end Go.Proofs.Ythgdknhocjlphaa
