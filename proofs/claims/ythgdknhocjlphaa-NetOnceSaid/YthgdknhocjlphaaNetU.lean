/- What the net keeps of one message that is doubled and spoilt: each copy is what was sent, but for at most one byte. -/
import Derived.Test.YthgdknhocjlphaaNetR
namespace Go.Proofs.Ythgdknhocjlphaa
open Go Go.RowKit

def NearTo (bs l : List UInt8) : Prop := l.length = bs.length ∧ ∃ p : Nat, ∀ i : Nat, i ≠ p → l[i]? = bs[i]?
def OnceInv (bs : List UInt8) (ms : Mail) : Prop := ∀ m ∈ ms, NearTo bs m.1 ∧ (m.2 = false → m.1 = bs)

theorem OnceInv.twice {bs : List UInt8} {ms : Mail} (h : OnceInv bs ms) (room : Nat) (i : Int) : OnceInv bs (TwiceS room ms i).2 ∧ ms.length ≤ (TwiceS room ms i).2.length ∧ (TwiceS room ms i).2.length ≤ max room ms.length := by
  unfold TwiceS
  split
  · exact ⟨h, Nat.le_refl _, Nat.le_max_right _ _⟩
  · split
    · rename_i m hm
      unfold sendS
      split
      · exact ⟨h, Nat.le_refl _, Nat.le_max_right _ _⟩
      · refine ⟨fun m' hm' => ?_, by simp, by simp; omega⟩
        rcases List.mem_append.1 hm' with h' | h'
        · exact h m' h'
        · simp at h'
          subst h'
          exact h _ (List.mem_of_getElem? hm)
    · exact ⟨h, Nat.le_refl _, Nat.le_max_right _ _⟩

theorem OnceInv.spoil {bs : List UInt8} {ms : Mail} (h : OnceInv bs ms) (i at_ by_ : Int) : OnceInv bs (SpoilS ms i at_ by_).2 ∧ (SpoilS ms i at_ by_).2.length = ms.length := by
  unfold SpoilS
  split
  · exact ⟨h, rfl⟩
  · split
    · rename_i m hm
      split
      · exact ⟨h, rfl⟩
      · rename_i hc
        refine ⟨fun m' hm' => ?_, by simp⟩
        rcases List.mem_or_eq_of_mem_set hm' with h' | h'
        · exact h m' h'
        · subst h'
          have hmm := h m (List.mem_of_getElem? hm)
          have e := hmm.2 (by cases h2 : m.2 with | false => rfl | true => exact absurd (Or.inl h2) hc)
          refine ⟨⟨by simp [e], (placeOf at_ m.1.length).toNat, fun i hi => ?_⟩, fun h => by cases h⟩
          simp only [spoilB]
          rw [List.getElem?_set_ne (Ne.symm hi), e]
    · exact ⟨h, rfl⟩

theorem OnceInv.erase {bs : List UInt8} {ms : Mail} (h : OnceInv bs ms) (j : Nat) : OnceInv bs (ms.eraseIdx j) := fun m hm => h m (List.mem_of_mem_eraseIdx hm)

theorem OnceInv.small {bs : List UInt8} {ms : Mail} (h : OnceInv bs ms) (hl : ms.length ≤ 40) (hb : bs.length ≤ 500) : Small ms := ⟨by omega, fun m hm => by have := (h m hm).1.1; omega⟩
theorem OnceInv.full {bs : List UInt8} {ms : Mail} (h : OnceInv bs ms) (hb : 1 ≤ bs.length) : ∀ m ∈ ms, m.1 ≠ [] := fun m hm e => by have := (h m hm).1.1; rw [e] at this; simp at this; omega

/-- How many messages the net at n holds, as its memory tells. -/
def mailLen (n : Nat) (w : World) : Nat := match w.cell? ⟨n, 1, none⟩ with | some (.slice _ l _) => l | _ => 0
theorem mailLen_rep {n room : Nat} {ms : Mail} {F : List Nat} {w : World} (h : NetRep w n room ms F) : mailLen n w = ms.length := by
  obtain ⟨lv, vs, G, hb, hm, rfl, hn⟩ := h
  obtain ⟨a, c, rfl⟩ := hm.form
  unfold mailLen
  rw [show w.cell? ⟨n, 1, none⟩ = some (.slice a ms.length c) by simpa using cell_of_block hb 1]

theorem once_len (n : Nat) (m : List UInt8 × Bool) (ms : Mail) (F : List Nat) (w : World) (h : NetRep w n 40 (m :: ms) F) :
    Calls Try.prog 11 #[.pointer (some ⟨n, 0, none⟩)] w fun e w' => e = .returned (.int .i64 (ms.length + 1)) ∧ w' = w :=
  (Len_any n 40 (m :: ms) F w h).mono fun e w' ⟨h1, h2⟩ => ⟨by rw [h1]; simp, h2⟩

theorem once_take (n : Nat) (bs : List UInt8) (m : List UInt8 × Bool) (ms : Mail) (F : List Nat) (w : World) (h : NetRep w n 40 (m :: ms) F) (hs : Small (m :: ms)) (hm : m.1.length = bs.length) :
    Calls Try.prog 10 #[.pointer (some ⟨n, 0, none⟩), .int .i64 0] w fun e w' => ∃ a c F', e = .returned (.tuple #[.slice a bs.length c, .bool true]) ∧ w'.ownsRow w.heap.size 5 1 (.slice a bs.length c) bs.length (u8s m.1) ∧ NetRep w' n 40 ms F' ∧ Turned F F' w w' :=
  (Take_any n 40 (m :: ms) F 0 w h hs).mono fun e w' ⟨a, c, hx⟩ => by
    have e0 : TakeS (m :: ms) 0 = (some m.1, ms) := by
      unfold TakeS
      rw [if_neg (by simp)]
      have := lookS_in (ms := m :: ms) (j := 0) (m := m) rfl
      simp at this
      rw [this]
      rfl
    rcases hx with ⟨h1, _⟩ | ⟨b, F', h1, _, h2, h3, h4, h5, _⟩
    · rw [e0] at h1; cases h1
    · rw [e0] at h1
      simp at h1
      obtain ⟨rfl, _⟩ := h1
      rw [hm] at h2 h3
      exact ⟨a, c, F', h2, h3, h4, h5⟩

end Go.Proofs.Ythgdknhocjlphaa
