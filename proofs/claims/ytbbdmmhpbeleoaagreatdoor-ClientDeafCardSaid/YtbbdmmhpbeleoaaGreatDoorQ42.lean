/- Joined of OpenL, OpenB. -/
import Derived.Test.YtbbdmmhpbeleoaaGreatDoorQ33
import Derived.Test.YtbbdmmhpbeleoaaGreatDoorQ32
import Derived.Test.YtbbdmmhpbeleoaaGreatDoorQ31

set_option linter.unusedSimpArgs false
set_option linter.unusedVariables false

/- THE ARGUMENTS OF THE LAWS, OPENED: lists of entries, of messages, of numbers. -/
namespace Go.Proofs.YtbbdmmhpbeleoaaGreatDoor
open Go Go.RowKit Go.WideShapes Go.ChangeShapes Go.Deep

section
variable {H : Type} {enc : TypeId × Value → H}

theorem open_list {α : Type} (L : Lay α) {et st : TypeId} (good : α → Prop) (ht : Tryz.prog.underlying st = some (.slice et)) (hcell : Tryz.prog.cellsOf et = L.size) {w : World}
    (hone : ∀ (fuel : Nat) (cs : List Value) (x : DataW H × List MemPlace), DataW.trod enc Tryz.prog w 0 (fun _ => true) true fuel et cs = some x → cs.length = L.size → ∃ e, L.at_ w (fun b => b < w.heap.size) cs e ∧ good e)
    {fuel : Nat} {cs : List Value} {x : DataW H × List MemPlace} (h : DataW.trod enc Tryz.prog w 0 (fun _ => true) true fuel st cs = some x) :
    ∃ (a : Option Addr) (l : List α) (c : Nat), cs = [.slice a l.length c] ∧ ListAt L w (fun b => b < w.heap.size) (.slice a l.length c) l ∧ ∀ e ∈ l, good e := by
  rcases open_slice ht h with ⟨rfl, _⟩ | ⟨a, len, cap, m, n, D, Pl, rfl, _, hlc, hcm, hm, _, hel⟩
  · exact ⟨none, [], 0, rfl, ListAt.nil _ _ _ _, by simp⟩
  · simp only [if_true] at hm
    subst hm
    rw [hcell] at hel
    have hp := L.pos
    have hsp : 0 < len → a.spot = none := fun h0 => by
      obtain ⟨cs', h1, h2⟩ := hel 0 (by omega)
      have := (World.cells?_some h1).2.2 0 (by omega)
      have hl := (World.cells?_some h1).2.1
      rw [List.getElem?_eq_getElem (by omega)] at this
      simpa [Addr.add] using spot_of_cell this
    have key : ∀ k, k ≤ len → ∃ (css : List (List Value)) (l : List α), l.length = k ∧ ElemsAt L w (fun b => b < w.heap.size) css l ∧ (∀ (j : Nat) (c : List Value), css[j]? = some c → w.cells? 0 (a.add (j * L.size)) L.size = some c) ∧ ∀ e ∈ l, good e := by
      intro k
      induction k with
      | zero => exact fun _ => ⟨[], [], rfl, ElemsAt.nil _ _, by simp, by simp⟩
      | succ k ih =>
        intro hk
        obtain ⟨css, l, hl, he, hc, hg⟩ := ih (by omega)
        obtain ⟨cs', h1, h2⟩ := hel k (by omega)
        obtain ⟨e, e1, e2⟩ := hone _ _ _ h2 (World.cells?_some h1).2.1
        refine ⟨css ++ [cs'], l ++ [e], by simp [hl], he.snoc e1, fun j c hj => ?_, fun x hx => ?_⟩
        · rw [List.getElem?_append] at hj
          split at hj
          · exact hc j c hj
          · have h3 := he.1
            have h4 : j - css.length = 0 := by
              have := (List.getElem?_eq_some_iff.1 hj).1
              simp at this
              omega
            rw [h4] at hj
            simp at hj
            subst hj
            rw [show j = k by omega]
            exact h1
        · rcases List.mem_append.1 hx with hx | hx
          · exact hg x hx
          · simp at hx
            rw [hx]
            exact e2
    obtain ⟨css, l, hl, he, hc, hg⟩ := key len (Nat.le_refl _)
    have cell : ∀ (i r : Nat) (u : Value) (c : List Value), css[i]? = some c → c[r]? = some u → r < L.size → w.cell? ⟨a.block, a.off + i * L.size + r, none⟩ = some u := fun i r u c h1 h2 h3 => by
      have h4 := (World.cells?_some (hc i c h1)).2.2 r h3
      have hi : i < len := by have := (List.getElem?_eq_some_iff.1 h1).1; rw [he.1, hl] at this; exact this
      rw [addr_at (hsp (by omega)), addr_at rfl] at h4
      rw [← h2]
      exact h4
    have blk : 0 < len → a.block < w.heap.size := fun h0 => by
      obtain ⟨cs', h1, h2⟩ := hel 0 (by omega)
      have h3 := (World.cells?_some h1).2.2 0 hp
      have hl' := (World.cells?_some h1).2.1
      rw [List.getElem?_eq_getElem (by omega)] at h3
      have := block_lt h3
      simpa [Addr.add] using this
    subst hl
    refine ⟨some a, l, _, rfl, ⟨css, he, ⟨?_, ?_⟩, ?_⟩, hg⟩
    · rw [flatten_length (n := L.size) he.lens, he.1]
    · rcases Nat.eq_zero_or_pos l.length with h0 | h0
      · exact .inl ⟨h0, _, _, by rw [h0]⟩
      · refine .inr ⟨h0, a.block, a.off, _, ?_, hlc, hcm, blk h0, fun j u hu => ?_⟩
        · have := hsp h0
          cases a; simp at this; subst this; rfl
        · have hj := (List.getElem?_eq_some_iff.1 hu).1
          rw [flatten_length (n := L.size) he.lens] at hj
          have hi : j / L.size < css.length := Nat.div_lt_of_lt_mul (by rw [Nat.mul_comm]; exact hj)
          have hr : j % L.size < L.size := Nat.mod_lt _ hp
          have e1 : j / L.size * L.size + j % L.size = j := by rw [Nat.mul_comm]; exact Nat.div_add_mod j L.size
          have hg2 := flatten_get (n := L.size) he.lens (i := j / L.size) (j := j % L.size) (List.getElem?_eq_getElem hi) hr
          rw [e1, hu] at hg2
          have := cell _ _ u _ (List.getElem?_eq_getElem hi) hg2.symm hr
          rw [Nat.add_assoc, e1] at this
          exact this
    · intro h0 b hb
      simp [mem_ownB, Value.ownBlock] at hb
      subst hb
      exact blk (by omega)

/-- A LIST that comes in. -/
theorem open_list_arg {α : Type} (L : Lay α) {et st : TypeId} (good : α → Prop) (ht : Tryz.prog.underlying st = some (.slice et)) (hcell : Tryz.prog.cellsOf et = L.size) {w : World}
    (hone : ∀ (fuel : Nat) (cs : List Value) (x : DataW H × List MemPlace), DataW.trod enc Tryz.prog w 0 (fun _ => true) true fuel et cs = some x → cs.length = L.size → ∃ e, L.at_ w (fun b => b < w.heap.size) cs e ∧ good e)
    {a : Option Addr} {len cap : Nat} {d : DataW H} {ps : List MemPlace} (h : DataW.Trod enc Tryz.prog w 0 (fun _ => true) true st (.slice a len cap) d ps) :
    ∃ l : List α, l.length = len ∧ ListAt L w (fun b => b < w.heap.size) (.slice a l.length cap) l ∧ ∀ e ∈ l, good e := by
  obtain ⟨fuel, h⟩ := h
  obtain ⟨a', l, c', e, hl, hg⟩ := open_list L good ht hcell hone h
  simp [Value.cells] at e
  obtain ⟨rfl, rfl, rfl⟩ := e
  exact ⟨l, rfl, hl, hg⟩

theorem open_bytesAt {w : World} {fuel : Nat} {cs : List Value} {x : DataW H × List MemPlace} (h : DataW.trod enc Tryz.prog w 0 (fun _ => true) true fuel 28 cs = some x) : ∃ v bs, cs = [v] ∧ BytesAt w (fun b => b < w.heap.size) v bs := by
  obtain ⟨a, c, bs, rfl, h1, h2⟩ := open_bytes h
  exact ⟨_, bs, rfl, h1, fun hn b hb => h2 b hb hn⟩

def IntW (n : Int) : Prop := (Lit.int .i64 n).wf = true
def EntW (e : Ent) : Prop := IntW e.term
structure MsgW (m : MsgD) : Prop where
  kind : IntW m.kind
  frm : IntW m.frm
  «to» : IntW m.«to»
  term : IntW m.term
  a : IntW m.a
  b : IntW m.b
  c : IntW m.c
  ents : ∀ e ∈ m.entries, EntW e

/-- A number in one cell. -/
def numL : Lay Int where
  size := 1
  pos := by decide
  at_ _ _ cs z := cs = [.int .i64 z]
  len := fun e => by rw [e]; rfl
  one := fun e u hu => by
    rw [e] at hu
    simp at hu
    rw [hu]; rfl
  keep := fun e _ _ => e
  mono := fun e _ => e

theorem open_int1 (w : World) (fuel : Nat) (cs : List Value) (x : DataW H × List MemPlace) (h : DataW.trod enc Tryz.prog w 0 (fun _ => true) true fuel 3 cs = some x) (_hl : cs.length = 1) : ∃ e, numL.at_ w (fun b => b < w.heap.size) cs e ∧ IntW e := by
  obtain ⟨n, r, h2⟩ := open_num Tryz.underlying3 h
  exact ⟨n, r, h2⟩

set_option maxRecDepth 100000 in
theorem open_ent (w : World) (fuel : Nat) (cs : List Value) (x : DataW H × List MemPlace) (h : DataW.trod enc Tryz.prog w 0 (fun _ => true) true fuel 118 cs = some x) (_hl : cs.length = 3) : ∃ e, entL.at_ w (fun b => b < w.heap.size) cs e ∧ EntW e := by
  obtain ⟨xs, n, rfl, _, hl, hxs, hf⟩ := DataW.trod_struct Tryz.underlying118 h
  have e3 : Tryz.prog.cellsOf 118 = 3 := by kernel_rfl
  have eI : Tryz.prog.cellsOf 3 = 1 := by kernel_rfl
  have eO : Tryz.prog.cellsOf 4 = 1 := by kernel_rfl
  have eB : Tryz.prog.cellsOf 28 = 1 := by kernel_rfl
  rw [e3] at hl
  have hx : ∀ i, i < 3 → ∃ y, xs[i]? = some y := fun i hi => ⟨xs[i]'(by rw [hxs]; exact hi), List.getElem?_eq_getElem _⟩
  match cs, hl with
  | [v0, v1, v2], _ =>
    obtain ⟨y0, g0⟩ := hx 0 (by omega)
    obtain ⟨y1, g1⟩ := hx 1 (by omega)
    obtain ⟨y2, g2⟩ := hx 2 (by omega)
    have f0 : DataW.trod enc Tryz.prog w 0 (fun _ => true) true n 3 [v0] = some y0 := by simpa [eI, g0] using hf 0 ⟨ "Term", 3, 0, false, "", "", 0⟩ rfl
    have f1 : DataW.trod enc Tryz.prog w 0 (fun _ => true) true n 4 [v1] = some y1 := by simpa [eO, g1] using hf 1 ⟨ "Cmd", 4, 1, false, "", "", 8⟩ rfl
    have f2 : DataW.trod enc Tryz.prog w 0 (fun _ => true) true n 28 [v2] = some y2 := by simpa [eB, g2] using hf 2 ⟨ "Data", 28, 2, false, "", "", 16⟩ rfl
    obtain ⟨n0, r0, w0⟩ := open_num Tryz.underlying3 f0
    obtain ⟨b1, r1, _⟩ := DataW.trod_bool Tryz.underlying4 f1
    obtain ⟨v, bs, r2, hb⟩ := open_bytesAt f2
    simp at r0 r1 r2
    subst r0 r1 r2
    exact ⟨⟨n0, b1, bs⟩, ⟨_, rfl, hb⟩, w0⟩

set_option maxRecDepth 100000 in
theorem open_msg (w : World) (fuel : Nat) (cs : List Value) (x : DataW H × List MemPlace) (h : DataW.trod enc Tryz.prog w 0 (fun _ => true) true fuel 57 cs = some x) (_hl : cs.length = 10) : ∃ m, msgL.at_ w (fun b => b < w.heap.size) cs m ∧ MsgW m := by
  obtain ⟨xs, n, rfl, _, hl, hxs, hf⟩ := DataW.trod_struct Tryz.underlying57 h
  have e10 : Tryz.prog.cellsOf 57 = 10 := by kernel_rfl
  have eI : Tryz.prog.cellsOf 3 = 1 := by kernel_rfl
  have eO : Tryz.prog.cellsOf 4 = 1 := by kernel_rfl
  have eE : Tryz.prog.cellsOf 55 = 1 := by kernel_rfl
  have eB : Tryz.prog.cellsOf 28 = 1 := by kernel_rfl
  rw [e10] at hl
  have hx : ∀ i, i < 10 → ∃ y, xs[i]? = some y := fun i hi => ⟨xs[i]'(by rw [hxs]; exact hi), List.getElem?_eq_getElem _⟩
  match cs, hl with
  | [v0, v1, v2, v3, v4, v5, v6, v7, v8, v9], _ =>
    obtain ⟨y0, g0⟩ := hx 0 (by omega)
    obtain ⟨y1, g1⟩ := hx 1 (by omega)
    obtain ⟨y2, g2⟩ := hx 2 (by omega)
    obtain ⟨y3, g3⟩ := hx 3 (by omega)
    obtain ⟨y4, g4⟩ := hx 4 (by omega)
    obtain ⟨y5, g5⟩ := hx 5 (by omega)
    obtain ⟨y6, g6⟩ := hx 6 (by omega)
    obtain ⟨y7, g7⟩ := hx 7 (by omega)
    obtain ⟨y8, g8⟩ := hx 8 (by omega)
    obtain ⟨y9, g9⟩ := hx 9 (by omega)
    have f0 : DataW.trod enc Tryz.prog w 0 (fun _ => true) true n 3 [v0] = some y0 := by simpa [eI, g0] using hf 0 ⟨ "Kind", 3, 0, false, "", "", 0⟩ rfl
    have f1 : DataW.trod enc Tryz.prog w 0 (fun _ => true) true n 3 [v1] = some y1 := by simpa [eI, g1] using hf 1 ⟨ "From", 3, 1, false, "", "", 8⟩ rfl
    have f2 : DataW.trod enc Tryz.prog w 0 (fun _ => true) true n 3 [v2] = some y2 := by simpa [eI, g2] using hf 2 ⟨ "To", 3, 2, false, "", "", 16⟩ rfl
    have f3 : DataW.trod enc Tryz.prog w 0 (fun _ => true) true n 3 [v3] = some y3 := by simpa [eI, g3] using hf 3 ⟨ "Term", 3, 3, false, "", "", 24⟩ rfl
    have f4 : DataW.trod enc Tryz.prog w 0 (fun _ => true) true n 3 [v4] = some y4 := by simpa [eI, g4] using hf 4 ⟨ "A", 3, 4, false, "", "", 32⟩ rfl
    have f5 : DataW.trod enc Tryz.prog w 0 (fun _ => true) true n 3 [v5] = some y5 := by simpa [eI, g5] using hf 5 ⟨ "B", 3, 5, false, "", "", 40⟩ rfl
    have f6 : DataW.trod enc Tryz.prog w 0 (fun _ => true) true n 3 [v6] = some y6 := by simpa [eI, g6] using hf 6 ⟨ "C", 3, 6, false, "", "", 48⟩ rfl
    have f7 : DataW.trod enc Tryz.prog w 0 (fun _ => true) true n 4 [v7] = some y7 := by simpa [eO, g7] using hf 7 ⟨ "Ok", 4, 7, false, "", "", 56⟩ rfl
    have f8 : DataW.trod enc Tryz.prog w 0 (fun _ => true) true n 55 [v8] = some y8 := by simpa [eE, g8] using hf 8 ⟨ "Entries", 55, 8, false, "", "", 64⟩ rfl
    have f9 : DataW.trod enc Tryz.prog w 0 (fun _ => true) true n 28 [v9] = some y9 := by simpa [eB, g9] using hf 9 ⟨ "Data", 28, 9, false, "", "", 88⟩ rfl
    obtain ⟨n0, r0, w0⟩ := open_num Tryz.underlying3 f0
    obtain ⟨n1, r1, w1⟩ := open_num Tryz.underlying3 f1
    obtain ⟨n2, r2, w2⟩ := open_num Tryz.underlying3 f2
    obtain ⟨n3, r3, w3⟩ := open_num Tryz.underlying3 f3
    obtain ⟨n4, r4, w4⟩ := open_num Tryz.underlying3 f4
    obtain ⟨n5, r5, w5⟩ := open_num Tryz.underlying3 f5
    obtain ⟨n6, r6, w6⟩ := open_num Tryz.underlying3 f6
    obtain ⟨b7, r7, _⟩ := DataW.trod_bool Tryz.underlying4 f7
    obtain ⟨a8, l8, c8, r8, h8, g8'⟩ := open_list entL EntW Tryz.underlying55 (by kernel_rfl) (fun fu cs x h hl => open_ent w fu cs x h hl) f8
    obtain ⟨v, bs, r9, hb⟩ := open_bytesAt f9
    simp at r0 r1 r2 r3 r4 r5 r6 r7 r8 r9
    subst r0 r1 r2 r3 r4 r5 r6 r7 r8 r9
    exact ⟨⟨n0, n1, n2, n3, n4, n5, n6, b7, l8, bs⟩, ⟨_, _, rfl, h8, hb⟩, ⟨w0, w1, w2, w3, w4, w5, w6, g8'⟩⟩
end

end Go.Proofs.YtbbdmmhpbeleoaaGreatDoor

/- A list of truths that comes in, opened. No function is named here. -/
namespace Go.Proofs.YtbbdmmhpbeleoaaGreatDoor
open Go Go.RowKit Go.WideShapes Go.ChangeShapes Go.Deep

def boolL : Lay Bool where
  size := 1
  pos := by decide
  at_ _ _ cs z := cs = [.bool z]
  len := fun e => by rw [e]; rfl
  one := fun e u hu => by
    rw [e] at hu
    simp at hu
    rw [hu]; rfl
  keep := fun e _ _ => e
  mono := fun e _ => e
theorem bools_flat {w : World} {P : Nat → Prop} : ∀ {css : List (List Value)} {l : List Bool}, ElemsAt boolL w P css l → css.flatten = l.map Value.bool
  | [], [], _ => rfl
  | [], _ :: _, h => by have := h.1; simp at this
  | _ :: _, [], h => by have := h.1; simp at this
  | c :: css, b :: l, h => by
    have h0 : c = [.bool b] := h.2 0 c b rfl rfl
    have h1 : ElemsAt boolL w P css l := ⟨by have := h.1; simpa using this, fun i cs a e1 e2 => h.2 (i + 1) cs a (by simpa using e1) (by simpa using e2)⟩
    rw [List.flatten_cons, bools_flat h1, h0]
    rfl
section
variable {H : Type} {enc : TypeId × Value → H}
theorem open_bool1 (w : World) (fuel : Nat) (cs : List Value) (x : DataW H × List MemPlace) (h : DataW.trod enc Tryz.prog w 0 (fun _ => true) true fuel 4 cs = some x) (_hl : cs.length = 1) : ∃ e, boolL.at_ w (fun b => b < w.heap.size) cs e ∧ True := by
  obtain ⟨b, r, _⟩ := DataW.trod_bool Tryz.underlying4 h
  exact ⟨b, r, trivial⟩
set_option maxRecDepth 100000 in
theorem open_bools_arg {w : World} {a : Option Addr} {len cap : Nat} {d : DataW H} {ps : List MemPlace} (h : DataW.Trod enc Tryz.prog w 0 (fun _ => true) true 63 (.slice a len cap) d ps) :
    ∃ l : List Bool, l.length = len ∧ Reads w 1 (.slice a l.length cap) l.length (l.map Value.bool) := by
  obtain ⟨l, h1, ⟨css, h2, h3, _⟩, _⟩ := open_list_arg boolL (fun _ => True) Tryz.underlying63 (by kernel_rfl) (fun fu cs x h hl => open_bool1 w fu cs x h hl) h
  rw [bools_flat h2] at h3
  exact ⟨l, h1, h3⟩
end

end Go.Proofs.YtbbdmmhpbeleoaaGreatDoor
