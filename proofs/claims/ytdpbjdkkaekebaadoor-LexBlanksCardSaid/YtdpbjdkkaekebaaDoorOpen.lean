/- THE ARGUMENTS OF THE LAWS, OPENED: slices of bytes, of ints, and single ints, as the walks want them. No function is named here. -/
import Derived.Test.YtdpbjdkkaekebaaDoorRows
import Derived.Test.YtdpbjdkkaekebaaDoorBase
import Derived.Deep.Slices
import Derived.ProofKit
namespace Go.Proofs.YtdpbjdkkaekebaaDoor
open Go Go.RowKit Go.WideShapes Go.ChangeShapes Go.Deep

theorem spot_of_cell {w : World} {a : Addr} {v : Value} (h : w.cell? a = some v) : a.spot = none := by
  unfold World.cell? at h
  split at h
  · split at h
    · cases h
    · rename_i hs; simpa using hs
  · cases h

theorem addr_at {a : Addr} (h : a.spot = none) (i : Nat) : a.add i = ⟨a.block, a.off + i, none⟩ := by
  unfold Addr.add
  cases a; simp at h; subst h
  split
  · rename_i h0; subst h0; rfl
  · rfl

theorem block_lt {w : World} {a : Addr} {v : Value} (h : w.cell? a = some v) : a.block < w.heap.size := by
  unfold World.cell? at h
  split at h
  · rename_i hs; exact (Array.getElem?_eq_some_iff.1 hs).1
  · cases h

/-- The bytes of numbers. -/
def ofNums (zs : List Int) : List UInt8 := zs.map fun z => UInt8.ofNat z.toNat

theorem ofNums_get {zs : List Int} (h : ∀ n ∈ zs, (Lit.int .u8 n).wf = true) {i : Nat} (hi : i < zs.length) : (u8s (ofNums zs))[i]? = some (.int .u8 (zs.getD i 0)) := by
  have hw := h zs[i] (List.getElem_mem hi)
  have hb : 0 ≤ zs[i] ∧ zs[i] < 256 := by
    have e1 : IntKind.u8.min = 0 := by rfl
    have e2 : IntKind.u8.max = 255 := by rfl
    simp [Lit.wf, e1, e2] at hw
    omega
  simp [u8s, ofNums, List.getD, List.getElem?_eq_getElem hi]
  omega

section
variable {H : Type} {enc : TypeId × Value → H}

/-- A SLICE OF BYTES. -/
theorem open_bytes {w : World} {fuel : Nat} {cs : List Value} {x : DataW H × List MemPlace} (h : DataW.trod enc Tryd.prog w 0 (fun _ => true) true fuel 74 cs = some x) :
    ∃ (a : Option Addr) (c : Nat) (bs : List UInt8), cs = [.slice a bs.length c] ∧ Reads w 1 (.slice a bs.length c) bs.length (u8s bs) ∧ ∀ k ∈ ownB (.slice a bs.length c), bs.length ≠ 0 → k < w.heap.size := by
  rcases open_ints Tryd.underlying74 Tryd.underlying5 (by kernel_rfl) h with ⟨rfl, _⟩ | ⟨a, len, cap, zs, rfl, _, hlc, hcm, hzs, _, hc, hw⟩
  · exact ⟨none, 0, [], rfl, ⟨rfl, .inl ⟨rfl, _, _, rfl⟩⟩, fun k _ h => absurd rfl h⟩
  · simp only [if_true] at hzs
    have hl : (ofNums (zs.take len)).length = len := by simp [ofNums]; omega
    refine ⟨some a, cap, ofNums (zs.take len), by rw [hl], ?_, ?_⟩
    · refine ⟨by simp [u8s], ?_⟩
      rcases Nat.eq_zero_or_pos len with rfl | hp
      · exact .inl ⟨hl, _, _, by rw [hl]⟩
      · have h0 := hc 0 (by omega)
        have hs : a.spot = none := by simpa [Addr.add] using spot_of_cell h0
        obtain ⟨b, off, sp⟩ := a
        simp at hs
        subst hs
        refine .inr ⟨by omega, b, off, cap, by rw [hl], by omega, hcm, by simpa [Addr.add] using block_lt h0, fun j u hu => ?_⟩
        have hj : j < len := by have := (List.getElem?_eq_some_iff.1 hu).1; simp [hl] at this; exact this
        rw [ofNums_get (fun n hn => hw n (List.mem_of_mem_take hn)) (by simp; omega)] at hu
        have := hc j (by omega)
        rw [addr_at rfl] at this
        simp at this
        rw [this, ← hu]
        simp [List.getD, List.getElem?_take, hj]
    · intro k hk h0
      have h1 := hc 0 (by omega)
      have h2 := block_lt h1
      simp [mem_ownB, Value.ownBlock, Addr.add] at hk h2
      omega

theorem open_num {w : World} {fuel : Nat} {t : TypeId} {k : IntKind} {cs : List Value} {x : DataW H × List MemPlace} (ht : Tryd.prog.underlying t = some (.int k)) (h : DataW.trod enc Tryd.prog w 0 (fun _ => true) true fuel t cs = some x) :
    ∃ n, cs = [.int k n] ∧ (Lit.int k n).wf = true := by
  obtain ⟨n', h, hx, hw⟩ := DataW.trod_int ht h
  exact ⟨n', h, hw⟩

/-- A SLICE OF BYTES that comes in. -/
theorem open_bytes_arg {w : World} {a : Option Addr} {len cap : Nat} {d : DataW H} {ps : List MemPlace} (h : DataW.Trod enc Tryd.prog w 0 (fun _ => true) true 74 (.slice a len cap) d ps) :
    ∃ bs : List UInt8, bs.length = len ∧ Reads w 1 (.slice a bs.length cap) bs.length (u8s bs) ∧ ∀ k ∈ ownB (.slice a bs.length cap), bs.length ≠ 0 → k < w.heap.size := by
  obtain ⟨fuel, h⟩ := h
  obtain ⟨a', c', bs, e, hr, hb⟩ := open_bytes h
  simp [Value.cells] at e
  obtain ⟨rfl, rfl, rfl⟩ := e
  exact ⟨bs, rfl, hr, hb⟩
end

end Go.Proofs.YtdpbjdkkaekebaaDoor
