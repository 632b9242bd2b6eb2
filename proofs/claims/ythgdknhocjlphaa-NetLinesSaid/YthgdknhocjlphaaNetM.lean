/- awake, same. -/
import Derived.Test.YthgdknhocjlphaaNetL
namespace Go.Proofs.Ythgdknhocjlphaa
open Go Go.RowKit

theorem Len_any (n room : Nat) (ms : Mail) (F : List Nat) (w : World) (h : NetRep w n room ms F) :
    Calls Try.prog 11 #[.pointer (some ⟨n, 0, none⟩)] w fun e w' => e = .returned (.int .i64 ms.length) ∧ w' = w := by
  obtain ⟨lv, vs, G, hb, hm, rfl, hn⟩ := h
  obtain ⟨a, c, rfl⟩ := hm.form
  exact len_any n a ms.length c w (by simpa using cell_of_block hb 1)

theorem Keeps.nil_trans {F : List Nat} {w w1 w2 : World} (h : Keeps [] w w1) (k : Keeps F w1 w2) (hF : ∀ b ∈ F, w.heap.size ≤ b) : Keeps [] w w2 :=
  h.trans k (fun b hb hb' => by have := hF b hb'; omega)

theorem sendS_room (room : Nat) (ms : Mail) (m : List UInt8 × Bool) (h : ms.length < room) : sendS room ms m = (0, ms ++ [m]) := if_neg (by omega)

set_option maxHeartbeats 800000 in
theorem awake_any (w : World) : Calls Try.prog 12 #[] w fun e w' => e = .returned (.bool true) ∧ Keeps [] w w' := by
  have r5 : roomOf 5 = 5 := by decide
  have s1 : SendS 5 [] [97] = (0, [([97], false)]) := by decide
  have s2 : TwiceS 5 [([97], false)] 0 = (0, [([97], false), ([97], false)]) := by decide
  have R5 := hid r5
  have S1 := hid s1
  have S2 := hid s2
  clear r5 s1 s2
  have kc := fun (w : World) (C : Array Value) (n c : Nat) => Lib.run_convert_bytes_const (P := Try.prog) w 26 5 C n c Try.underlying26 Try.underlying5
  go_enter Try.func12, Try.ntmps12
  go_wp2_with (first
    | (go_at_call 8; go_must (refine (netNew_any 5 _).mono ?_; rintro e w1 ⟨rfl, h1, k1⟩; rw [R5.out] at h1; have H1 := hid h1; have K1 := hid k1; clear h1 k1))
    | (go_at_call 9; go_must (refine (Send_any w.heap.size 5 [] [w.heap.size] _ [97] _ (by exact H1.out.keeps ((Keeps.refl [] w1).alloc _) (fun _ _ h => by cases h)) (by exact Reads.ofBlock (heap_alloc_new w1 _) rfl (by decide)) (by decide) (by intro b hb; simp [mem_ownB, Value.ownBlock] at hb; subst hb; simp) (by decide)).mono ?_; rintro e w2 ⟨rfl, F2, h2, k2⟩; rw [S1.out] at h2 ⊢; have H2 := hid h2; have K2 := hid k2; clear h2 k2))
    | (go_at_call 19; go_must (refine (Twice_any w.heap.size 5 [([97], false)] F2 0 _ H2.out ⟨by decide, by decide⟩).mono ?_; rintro e w3 ⟨rfl, F3, h3, k3⟩; rw [S2.out] at h3 ⊢; have H3 := hid h3; have K3 := hid k3; clear h3 k3))
    | (go_at_call 11; go_must (refine (Len_any w.heap.size 5 [([97], false), ([97], false)] F3 _ H3.out).mono ?_; rintro e w' ⟨rfl, rfl⟩)))
  go_ret
  have hF2 : ∀ b ∈ F2, w.heap.size ≤ b := fun b hb => by
    rcases K2.out.2 b hb with h | h
    · simp at h; omega
    · have := K1.out.size; simp at h; omega
  exact ⟨rfl, ((K1.out.alloc _).nil_trans K2.out.1 (by simp)).nil_trans K3.out.1 hF2⟩

end Go.Proofs.Ythgdknhocjlphaa
