/- THE ARGUMENTS OF THE LAWS, OPENED: a list of numbers. (Out of OpenL.) -/
import Derived.Test.YtdpbjdkkaekebaaDoorLays
import Derived.Test.YtdpbjdkkaekebaaDoorOpen
namespace Go.Proofs.YtdpbjdkkaekebaaDoor
open Go Go.RowKit Go.WideShapes Go.ChangeShapes Go.Deep

section
variable {H : Type} {enc : TypeId × Value → H}

theorem open_list {α : Type} (L : Lay α) {et st : TypeId} (good : α → Prop) (ht : Tryd.prog.underlying st = some (.slice et)) (hcell : Tryd.prog.cellsOf et = L.size) {w : World}
    (hone : ∀ (fuel : Nat) (cs : List Value) (x : DataW H × List MemPlace), DataW.trod enc Tryd.prog w 0 (fun _ => true) true fuel et cs = some x → cs.length = L.size → ∃ e, L.at_ w (fun b => b < w.heap.size) cs e ∧ good e)
    {fuel : Nat} {cs : List Value} {x : DataW H × List MemPlace} (h : DataW.trod enc Tryd.prog w 0 (fun _ => true) true fuel st cs = some x) :
    ∃ (a : Option Addr) (l : List α) (c : Nat), cs = [.slice a l.length c] ∧ ListAt L w (fun b => b < w.heap.size) (.slice a l.length c) l ∧ ∀ e ∈ l, good e := by
  rcases open_slice ht h with ⟨rfl, _⟩ | ⟨a, len, cap, m, n, D, Pl, rfl, _, hlc, hcm, hm, _, hel⟩
  · exact ⟨none, [], 0, rfl, ListAt.nil _ _ _ _, by simp⟩
  · simp only [if_true] at hm
    subst hm
    rw [hcell] at hel
    have hp := L.pos
    have hsp : 0 < len → a.spot = none := fun h0 => by
      obtain ⟨cs', h1, h2⟩ := hel 0 (by omega)
      have := (World.cells?_some h1).2.2 0 (by omega)
      have hl := (World.cells?_some h1).2.1
      rw [List.getElem?_eq_getElem (by omega)] at this
      simpa [Addr.add] using spot_of_cell this
    have key : ∀ k, k ≤ len → ∃ (css : List (List Value)) (l : List α), l.length = k ∧ ElemsAt L w (fun b => b < w.heap.size) css l ∧ (∀ (j : Nat) (c : List Value), css[j]? = some c → w.cells? 0 (a.add (j * L.size)) L.size = some c) ∧ ∀ e ∈ l, good e := by
      intro k
      induction k with
      | zero => exact fun _ => ⟨[], [], rfl, ElemsAt.nil _ _, by simp, by simp⟩
      | succ k ih =>
        intro hk
        obtain ⟨css, l, hl, he, hc, hg⟩ := ih (by omega)
        obtain ⟨cs', h1, h2⟩ := hel k (by omega)
        obtain ⟨e, e1, e2⟩ := hone _ _ _ h2 (World.cells?_some h1).2.1
        refine ⟨css ++ [cs'], l ++ [e], by simp [hl], he.snoc e1, fun j c hj => ?_, fun x hx => ?_⟩
        · rw [List.getElem?_append] at hj
          split at hj
          · exact hc j c hj
          · have h3 := he.1
            have h4 : j - css.length = 0 := by
              have := (List.getElem?_eq_some_iff.1 hj).1
              simp at this
              omega
            rw [h4] at hj
            simp at hj
            subst hj
            rw [show j = k by omega]
            exact h1
        · rcases List.mem_append.1 hx with hx | hx
          · exact hg x hx
          · simp at hx
            rw [hx]
            exact e2
    obtain ⟨css, l, hl, he, hc, hg⟩ := key len (Nat.le_refl _)
    have cell : ∀ (i r : Nat) (u : Value) (c : List Value), css[i]? = some c → c[r]? = some u → r < L.size → w.cell? ⟨a.block, a.off + i * L.size + r, none⟩ = some u := fun i r u c h1 h2 h3 => by
      have h4 := (World.cells?_some (hc i c h1)).2.2 r h3
      have hi : i < len := by have := (List.getElem?_eq_some_iff.1 h1).1; rw [he.1, hl] at this; exact this
      rw [addr_at (hsp (by omega)), addr_at rfl] at h4
      rw [← h2]
      exact h4
    have blk : 0 < len → a.block < w.heap.size := fun h0 => by
      obtain ⟨cs', h1, h2⟩ := hel 0 (by omega)
      have h3 := (World.cells?_some h1).2.2 0 hp
      have hl' := (World.cells?_some h1).2.1
      rw [List.getElem?_eq_getElem (by omega)] at h3
      have := block_lt h3
      simpa [Addr.add] using this
    subst hl
    refine ⟨some a, l, _, rfl, ⟨css, he, ⟨?_, ?_⟩, ?_⟩, hg⟩
    · rw [flatten_length (n := L.size) he.lens, he.1]
    · rcases Nat.eq_zero_or_pos l.length with h0 | h0
      · exact .inl ⟨h0, _, _, by rw [h0]⟩
      · refine .inr ⟨h0, a.block, a.off, _, ?_, hlc, hcm, blk h0, fun j u hu => ?_⟩
        · have := hsp h0
          cases a; simp at this; subst this; rfl
        · have hj := (List.getElem?_eq_some_iff.1 hu).1
          rw [flatten_length (n := L.size) he.lens] at hj
          have hi : j / L.size < css.length := Nat.div_lt_of_lt_mul (by rw [Nat.mul_comm]; exact hj)
          have hr : j % L.size < L.size := Nat.mod_lt _ hp
          have e1 : j / L.size * L.size + j % L.size = j := by rw [Nat.mul_comm]; exact Nat.div_add_mod j L.size
          have hg2 := flatten_get (n := L.size) he.lens (i := j / L.size) (j := j % L.size) (List.getElem?_eq_getElem hi) hr
          rw [e1, hu] at hg2
          have := cell _ _ u _ (List.getElem?_eq_getElem hi) hg2.symm hr
          rw [Nat.add_assoc, e1] at this
          exact this
    · intro h0 b hb
      simp [mem_ownB, Value.ownBlock] at hb
      subst hb
      exact blk (by omega)

/-- A LIST that comes in. -/
theorem open_list_arg {α : Type} (L : Lay α) {et st : TypeId} (good : α → Prop) (ht : Tryd.prog.underlying st = some (.slice et)) (hcell : Tryd.prog.cellsOf et = L.size) {w : World}
    (hone : ∀ (fuel : Nat) (cs : List Value) (x : DataW H × List MemPlace), DataW.trod enc Tryd.prog w 0 (fun _ => true) true fuel et cs = some x → cs.length = L.size → ∃ e, L.at_ w (fun b => b < w.heap.size) cs e ∧ good e)
    {a : Option Addr} {len cap : Nat} {d : DataW H} {ps : List MemPlace} (h : DataW.Trod enc Tryd.prog w 0 (fun _ => true) true st (.slice a len cap) d ps) :
    ∃ l : List α, l.length = len ∧ ListAt L w (fun b => b < w.heap.size) (.slice a l.length cap) l ∧ ∀ e ∈ l, good e := by
  obtain ⟨fuel, h⟩ := h
  obtain ⟨a', l, c', e, hl, hg⟩ := open_list L good ht hcell hone h
  simp [Value.cells] at e
  obtain ⟨rfl, rfl, rfl⟩ := e
  exact ⟨l, rfl, hl, hg⟩

def IntW (n : Int) : Prop := (Lit.int .i64 n).wf = true
def numL : Lay Int where
  size := 1
  pos := by decide
  at_ _ _ cs z := cs = [.int .i64 z]
  len := fun e => by rw [e]; rfl
  one := fun e u hu => by
    rw [e] at hu
    simp at hu
    rw [hu]; rfl
  keep := fun e _ _ => e
  mono := fun e _ => e

theorem open_int1 (w : World) (fuel : Nat) (cs : List Value) (x : DataW H × List MemPlace) (h : DataW.trod enc Tryd.prog w 0 (fun _ => true) true fuel 3 cs = some x) (_hl : cs.length = 1) : ∃ e, numL.at_ w (fun b => b < w.heap.size) cs e ∧ IntW e := by
  obtain ⟨n, r, h2⟩ := open_num Tryd.underlying3 h
  exact ⟨n, r, h2⟩
end

end Go.Proofs.YtdpbjdkkaekebaaDoor
