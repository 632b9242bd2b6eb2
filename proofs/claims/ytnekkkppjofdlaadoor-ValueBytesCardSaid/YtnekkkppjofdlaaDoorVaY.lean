/- A value's bytes: plain. -/
import Derived.Test.YtnekkkppjofdlaaDoorVaX
import Derived.Lib.Zigzag
import Derived.Lib.Varint
namespace Go.Proofs.YtnekkkppjofdlaaDoor
open Go

def intL (n : Int) : List UInt8 := Lib.uvarint (Lib.zigzag n)
def textL (s : ByteArray) : List UInt8 := intL s.size ++ s.data.toList
def putL (v : ValD) : List UInt8 := intL v.kind ++ intL v.n ++ textL v.s

theorem byte_nat (n : Nat) (h : n < 256) : (n.toUInt8).toNat = n := by simp; omega
theorem uvarint_pre (x : Nat) : ∀ (y : Nat) (t u : List UInt8), Lib.uvarint x ++ t = Lib.uvarint y ++ u → x = y ∧ t = u := by
  induction x using Nat.strongRecOn with
  | _ x ih =>
    intro y t u h
    by_cases hx : x < 128 <;> by_cases hy : y < 128
    · rw [Lib.uvarint_small hx, Lib.uvarint_small hy] at h
      have h1 := congrArg UInt8.toNat (List.cons.inj h).1
      rw [byte_nat _ (by omega), byte_nat _ (by omega)] at h1
      exact ⟨h1, (List.cons.inj h).2⟩
    · rw [Lib.uvarint_small hx, Lib.uvarint_big (by omega : 128 ≤ y)] at h
      have h1 := congrArg UInt8.toNat (List.cons.inj h).1
      rw [byte_nat _ (by omega), byte_nat _ (by omega)] at h1
      omega
    · rw [Lib.uvarint_big (by omega : 128 ≤ x), Lib.uvarint_small hy] at h
      have h1 := congrArg UInt8.toNat (List.cons.inj h).1
      rw [byte_nat _ (by omega), byte_nat _ (by omega)] at h1
      omega
    · rw [Lib.uvarint_big (by omega : 128 ≤ x), Lib.uvarint_big (by omega : 128 ≤ y)] at h
      have h1 := congrArg UInt8.toNat (List.cons.inj h).1
      rw [byte_nat _ (by omega), byte_nat _ (by omega)] at h1
      obtain ⟨h2, h3⟩ := ih (x / 128) (by omega) (y / 128) t u (List.cons.inj h).2
      exact ⟨by omega, h3⟩
theorem zigzag_inj {n m : Int} (h : Lib.zigzag n = Lib.zigzag m) : n = m := by
  unfold Lib.zigzag at h
  repeat' split at h
  all_goals omega
theorem intL_pre {n m : Int} {t u : List UInt8} (h : intL n ++ t = intL m ++ u) : n = m ∧ t = u := by
  obtain ⟨h1, h2⟩ := uvarint_pre _ _ _ _ h
  exact ⟨zigzag_inj h1, h2⟩
theorem putL_inj {v u : ValD} (h : putL v = putL u) : v = u := by
  obtain ⟨k, n, s⟩ := v
  obtain ⟨k', n', s'⟩ := u
  unfold putL textL at h
  simp only [List.append_assoc] at h
  obtain ⟨e1, h2⟩ := intL_pre h
  obtain ⟨e2, h3⟩ := intL_pre h2
  obtain ⟨_, h4⟩ := intL_pre h3
  subst e1 e2
  clear h h2 h3
  obtain ⟨⟨l⟩⟩ := s
  obtain ⟨⟨m⟩⟩ := s'
  simp at h4
  rw [h4]

end Go.Proofs.YtnekkkppjofdlaaDoor
