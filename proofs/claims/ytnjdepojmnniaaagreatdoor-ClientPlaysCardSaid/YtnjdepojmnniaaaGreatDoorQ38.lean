/- Joined of OpenW, LawW, OpenV, CmO, OpenC, OpenD. -/
import Derived.Test.YtnjdepojmnniaaaGreatDoorQ37
import Derived.Test.YtnjdepojmnniaaaGreatDoorQ36
import Derived.SizedLaws
import Derived.Test.YtnjdepojmnniaaaGreatDoorQ00
import Derived.Test.YtnjdepojmnniaaaGreatDoorQ29

set_option linter.unusedSimpArgs false
set_option linter.unusedVariables false

/- The arguments of the laws, opened with their sizes: how long the bytes within an entry may be. Printed by gen_wide.py. -/
namespace Go.Proofs.YtnjdepojmnniaaaGreatDoor
open Go Go.RowKit Go.WideShapes Go.ChangeShapes Go.Deep

section
variable {H : Type} {enc : TypeId × Value → H}

theorem weightsAll_mem {P : Program} {e : TypeId} {d : DataW H} {q : Nat} (hq : q ∈ d.weights P e) : ∀ {l : List (DataW H)}, d ∈ l → q ∈ DataW.weightsAll P e l
  | x :: l, h => by
    simp only [DataW.weightsAll, List.mem_append]
    rcases List.mem_cons.1 h with rfl | h
    · exact .inl hq
    · exact .inr (weightsAll_mem hq h)
theorem weights_elem {P : Program} {st et : TypeId} (ht : P.underlying st = some (.slice et)) {D : Nat → DataW H} {len k : Nat} {sp : List (DataW H)} (hk : k < len) {q : Nat} (hq : q ∈ (D k).weights P et) : q ∈ (DataW.slice ((List.range len).map D) sp).weights P st := by
  simp only [DataW.weights, ht, List.mem_cons, List.mem_append]
  exact .inr (.inl (weightsAll_mem hq (List.mem_map.2 ⟨k, by simpa using hk, rfl⟩)))
theorem weights_part {P : Program} {t ti : TypeId} {fs : Array Field} (ht : P.underlying t = some (.struct fs)) {parts : List (DataW H)} {i : Nat} {d : DataW H} (h1 : (fs.toList.map (·.type))[i]? = some ti) (h2 : parts[i]? = some d) {q : Nat} (hq : q ∈ d.weights P ti) : q ∈ (DataW.agg parts).weights P t := by
  simp only [DataW.weights, ht]
  exact DataW.weights_mem_each h1 h2 q hq
def EntZ (e : Ent) : Prop := EntW e ∧ e.data.length ≤ 140737488351232
def MsgZ (m : MsgD) : Prop := MsgW m ∧ ∀ e ∈ m.entries, e.data.length ≤ 140737488351232
theorem open_bytesAtW {w : World} {fuel : Nat} {cs : List Value} {x : DataW H × List MemPlace} (h : DataW.trod enc Tryz.prog w 0 (fun _ => true) true fuel 36 cs = some x) (hw : ∀ q ∈ x.1.weights Tryz.prog 36, q ≤ reachBytes) :
    ∃ v bs, cs = [v] ∧ BytesAt w (fun b => b < w.heap.size) v bs ∧ bs.length ≤ 140737488351232 := by
  obtain ⟨a, c, bs, rfl, h1, h2⟩ := open_bytes h
  refine ⟨_, bs, rfl, ⟨h1, fun hn b hb => h2 b hb hn⟩, ?_⟩
  exact bytes_short (a := a) (len := bs.length) (cap := c) (d := x.1) (ps := x.2) ⟨fuel, h⟩ (fun el sp e => hw _ (by rw [e]; simp [DataW.weights, Tryz.underlying36]))

theorem open_listW {α : Type} (L : Lay α) {et st : TypeId} (good : α → Prop) (ht : Tryz.prog.underlying st = some (.slice et)) (hcell : Tryz.prog.cellsOf et = L.size) {w : World}
    (hone : ∀ (fuel : Nat) (cs : List Value) (x : DataW H × List MemPlace), DataW.trod enc Tryz.prog w 0 (fun _ => true) true fuel et cs = some x → cs.length = L.size → (∀ q ∈ x.1.weights Tryz.prog et, q ≤ reachBytes) → ∃ e, L.at_ w (fun b => b < w.heap.size) cs e ∧ good e)
    {fuel : Nat} {cs : List Value} {x : DataW H × List MemPlace} (h : DataW.trod enc Tryz.prog w 0 (fun _ => true) true fuel st cs = some x) (hw : ∀ q ∈ x.1.weights Tryz.prog st, q ≤ reachBytes) :
    ∃ (a : Option Addr) (l : List α) (c : Nat), cs = [.slice a l.length c] ∧ ListAt L w (fun b => b < w.heap.size) (.slice a l.length c) l ∧ ∀ e ∈ l, good e := by
  rcases open_slice ht h with ⟨rfl, _⟩ | ⟨a, len, cap, m, n, D, Pl, rfl, _, hlc, hcm, hm, rfl, hel⟩
  · exact ⟨none, [], 0, rfl, ListAt.nil _ _ _ _, by simp⟩
  · simp only [if_true] at hm
    subst hm
    rw [hcell] at hel
    have hp := L.pos
    have hsp : 0 < len → a.spot = none := fun h0 => by
      obtain ⟨cs', h1, h2⟩ := hel 0 (by omega)
      have := (World.cells?_some h1).2.2 0 (by omega)
      have hl := (World.cells?_some h1).2.1
      rw [List.getElem?_eq_getElem (by omega)] at this
      simpa [Addr.add] using spot_of_cell this
    have key : ∀ k, k ≤ len → ∃ (css : List (List Value)) (l : List α), l.length = k ∧ ElemsAt L w (fun b => b < w.heap.size) css l ∧ (∀ (j : Nat) (c : List Value), css[j]? = some c → w.cells? 0 (a.add (j * L.size)) L.size = some c) ∧ ∀ e ∈ l, good e := by
      intro k
      induction k with
      | zero => exact fun _ => ⟨[], [], rfl, ElemsAt.nil _ _, by simp, by simp⟩
      | succ k ih =>
        intro hk
        obtain ⟨css, l, hl, he, hc, hg⟩ := ih (by omega)
        obtain ⟨cs', h1, h2⟩ := hel k (by omega)
        obtain ⟨e, e1, e2⟩ := hone _ _ _ h2 (World.cells?_some h1).2.1 (fun q hq => hw q (weights_elem ht (by omega) hq))
        refine ⟨css ++ [cs'], l ++ [e], by simp [hl], he.snoc e1, fun j c hj => ?_, fun x hx => ?_⟩
        · rw [List.getElem?_append] at hj
          split at hj
          · exact hc j c hj
          · have h3 := he.1
            have h4 : j - css.length = 0 := by
              have := (List.getElem?_eq_some_iff.1 hj).1
              simp at this
              omega
            rw [h4] at hj
            simp at hj
            subst hj
            rw [show j = k by omega]
            exact h1
        · rcases List.mem_append.1 hx with hx | hx
          · exact hg x hx
          · simp at hx
            rw [hx]
            exact e2
    obtain ⟨css, l, hl, he, hc, hg⟩ := key len (Nat.le_refl _)
    have cell : ∀ (i r : Nat) (u : Value) (c : List Value), css[i]? = some c → c[r]? = some u → r < L.size → w.cell? ⟨a.block, a.off + i * L.size + r, none⟩ = some u := fun i r u c h1 h2 h3 => by
      have h4 := (World.cells?_some (hc i c h1)).2.2 r h3
      have hi : i < len := by have := (List.getElem?_eq_some_iff.1 h1).1; rw [he.1, hl] at this; exact this
      rw [addr_at (hsp (by omega)), addr_at rfl] at h4
      rw [← h2]
      exact h4
    have blk : 0 < len → a.block < w.heap.size := fun h0 => by
      obtain ⟨cs', h1, h2⟩ := hel 0 (by omega)
      have h3 := (World.cells?_some h1).2.2 0 hp
      have hl' := (World.cells?_some h1).2.1
      rw [List.getElem?_eq_getElem (by omega)] at h3
      have := block_lt h3
      simpa [Addr.add] using this
    subst hl
    refine ⟨some a, l, _, rfl, ⟨css, he, ⟨?_, ?_⟩, ?_⟩, hg⟩
    · rw [flatten_length (n := L.size) he.lens, he.1]
    · rcases Nat.eq_zero_or_pos l.length with h0 | h0
      · exact .inl ⟨h0, _, _, by rw [h0]⟩
      · refine .inr ⟨h0, a.block, a.off, _, ?_, hlc, hcm, blk h0, fun j u hu => ?_⟩
        · have := hsp h0
          cases a; simp at this; subst this; rfl
        · have hj := (List.getElem?_eq_some_iff.1 hu).1
          rw [flatten_length (n := L.size) he.lens] at hj
          have hi : j / L.size < css.length := Nat.div_lt_of_lt_mul (by rw [Nat.mul_comm]; exact hj)
          have hr : j % L.size < L.size := Nat.mod_lt _ hp
          have e1 : j / L.size * L.size + j % L.size = j := by rw [Nat.mul_comm]; exact Nat.div_add_mod j L.size
          have hg2 := flatten_get (n := L.size) he.lens (i := j / L.size) (j := j % L.size) (List.getElem?_eq_getElem hi) hr
          rw [e1, hu] at hg2
          have := cell _ _ u _ (List.getElem?_eq_getElem hi) hg2.symm hr
          rw [Nat.add_assoc, e1] at this
          exact this
    · intro h0 b hb
      simp [mem_ownB, Value.ownBlock] at hb
      subst hb
      exact blk (by omega)

/-- A LIST that comes in. -/
theorem open_listW_arg {α : Type} (L : Lay α) {et st : TypeId} (good : α → Prop) (ht : Tryz.prog.underlying st = some (.slice et)) (hcell : Tryz.prog.cellsOf et = L.size) {w : World}
    (hone : ∀ (fuel : Nat) (cs : List Value) (x : DataW H × List MemPlace), DataW.trod enc Tryz.prog w 0 (fun _ => true) true fuel et cs = some x → cs.length = L.size → (∀ q ∈ x.1.weights Tryz.prog et, q ≤ reachBytes) → ∃ e, L.at_ w (fun b => b < w.heap.size) cs e ∧ good e)
    {a : Option Addr} {len cap : Nat} {d : DataW H} {ps : List MemPlace} (h : DataW.Trod enc Tryz.prog w 0 (fun _ => true) true st (.slice a len cap) d ps) (hw : ∀ q ∈ d.weights Tryz.prog st, q ≤ reachBytes) :
    ∃ l : List α, l.length = len ∧ ListAt L w (fun b => b < w.heap.size) (.slice a l.length cap) l ∧ ∀ e ∈ l, good e := by
  obtain ⟨fuel, h⟩ := h
  obtain ⟨a', l, c', e, hl, hg⟩ := open_listW L good ht hcell hone h hw
  simp [Value.cells] at e
  obtain ⟨rfl, rfl, rfl⟩ := e
  exact ⟨l, rfl, hl, hg⟩

set_option maxRecDepth 100000 in
theorem open_entW (w : World) (fuel : Nat) (cs : List Value) (x : DataW H × List MemPlace) (h : DataW.trod enc Tryz.prog w 0 (fun _ => true) true fuel 109 cs = some x) (_hl : cs.length = 3) (hw : ∀ q ∈ x.1.weights Tryz.prog 109, q ≤ reachBytes) : ∃ e, entL.at_ w (fun b => b < w.heap.size) cs e ∧ EntZ e := by
  obtain ⟨xs, n, rfl, rfl, hl, hxs, hf⟩ := DataW.trod_struct Tryz.underlying109 h
  have e3 : Tryz.prog.cellsOf 109 = 3 := by kernel_rfl
  have eI : Tryz.prog.cellsOf 3 = 1 := by kernel_rfl
  have eO : Tryz.prog.cellsOf 4 = 1 := by kernel_rfl
  have eB : Tryz.prog.cellsOf 36 = 1 := by kernel_rfl
  rw [e3] at hl
  have hx : ∀ i, i < 3 → ∃ y, xs[i]? = some y := fun i hi => ⟨xs[i]'(by rw [hxs]; exact hi), List.getElem?_eq_getElem _⟩
  match cs, hl with
  | [v0, v1, v2], _ =>
    obtain ⟨y0, g0⟩ := hx 0 (by omega)
    obtain ⟨y1, g1⟩ := hx 1 (by omega)
    obtain ⟨y2, g2⟩ := hx 2 (by omega)
    have f0 : DataW.trod enc Tryz.prog w 0 (fun _ => true) true n 3 [v0] = some y0 := by simpa [eI, g0] using hf 0 ⟨ "Term", 3, 0, false, "", "", 0⟩ rfl
    have f1 : DataW.trod enc Tryz.prog w 0 (fun _ => true) true n 4 [v1] = some y1 := by simpa [eO, g1] using hf 1 ⟨ "Cmd", 4, 1, false, "", "", 8⟩ rfl
    have f2 : DataW.trod enc Tryz.prog w 0 (fun _ => true) true n 36 [v2] = some y2 := by simpa [eB, g2] using hf 2 ⟨ "Data", 36, 2, false, "", "", 16⟩ rfl
    obtain ⟨n0, r0, w0⟩ := open_num Tryz.underlying3 f0
    obtain ⟨b1, r1, _⟩ := DataW.trod_bool Tryz.underlying4 f1
    obtain ⟨v, bs, r2, hb, hz⟩ := open_bytesAtW f2 (fun q hq => hw q (weights_part Tryz.underlying109 (i := 2) (ti := 36) rfl (by simp [g2]) hq))
    simp at r0 r1 r2
    subst r0 r1 r2
    exact ⟨⟨n0, b1, bs⟩, ⟨_, rfl, hb⟩, w0, hz⟩

set_option maxRecDepth 100000 in
theorem open_msgW (w : World) (fuel : Nat) (cs : List Value) (x : DataW H × List MemPlace) (h : DataW.trod enc Tryz.prog w 0 (fun _ => true) true fuel 38 cs = some x) (_hl : cs.length = 10) (hw : ∀ q ∈ x.1.weights Tryz.prog 38, q ≤ reachBytes) : ∃ m, msgL.at_ w (fun b => b < w.heap.size) cs m ∧ MsgZ m := by
  obtain ⟨xs, n, rfl, rfl, hl, hxs, hf⟩ := DataW.trod_struct Tryz.underlying38 h
  have e10 : Tryz.prog.cellsOf 38 = 10 := by kernel_rfl
  have eI : Tryz.prog.cellsOf 3 = 1 := by kernel_rfl
  have eO : Tryz.prog.cellsOf 4 = 1 := by kernel_rfl
  have eE : Tryz.prog.cellsOf 35 = 1 := by kernel_rfl
  have eB : Tryz.prog.cellsOf 36 = 1 := by kernel_rfl
  rw [e10] at hl
  have hx : ∀ i, i < 10 → ∃ y, xs[i]? = some y := fun i hi => ⟨xs[i]'(by rw [hxs]; exact hi), List.getElem?_eq_getElem _⟩
  match cs, hl with
  | [v0, v1, v2, v3, v4, v5, v6, v7, v8, v9], _ =>
    obtain ⟨y0, g0⟩ := hx 0 (by omega)
    obtain ⟨y1, g1⟩ := hx 1 (by omega)
    obtain ⟨y2, g2⟩ := hx 2 (by omega)
    obtain ⟨y3, g3⟩ := hx 3 (by omega)
    obtain ⟨y4, g4⟩ := hx 4 (by omega)
    obtain ⟨y5, g5⟩ := hx 5 (by omega)
    obtain ⟨y6, g6⟩ := hx 6 (by omega)
    obtain ⟨y7, g7⟩ := hx 7 (by omega)
    obtain ⟨y8, g8⟩ := hx 8 (by omega)
    obtain ⟨y9, g9⟩ := hx 9 (by omega)
    have f0 : DataW.trod enc Tryz.prog w 0 (fun _ => true) true n 3 [v0] = some y0 := by simpa [eI, g0] using hf 0 ⟨ "Kind", 3, 0, false, "", "", 0⟩ rfl
    have f1 : DataW.trod enc Tryz.prog w 0 (fun _ => true) true n 3 [v1] = some y1 := by simpa [eI, g1] using hf 1 ⟨ "From", 3, 1, false, "", "", 8⟩ rfl
    have f2 : DataW.trod enc Tryz.prog w 0 (fun _ => true) true n 3 [v2] = some y2 := by simpa [eI, g2] using hf 2 ⟨ "To", 3, 2, false, "", "", 16⟩ rfl
    have f3 : DataW.trod enc Tryz.prog w 0 (fun _ => true) true n 3 [v3] = some y3 := by simpa [eI, g3] using hf 3 ⟨ "Term", 3, 3, false, "", "", 24⟩ rfl
    have f4 : DataW.trod enc Tryz.prog w 0 (fun _ => true) true n 3 [v4] = some y4 := by simpa [eI, g4] using hf 4 ⟨ "A", 3, 4, false, "", "", 32⟩ rfl
    have f5 : DataW.trod enc Tryz.prog w 0 (fun _ => true) true n 3 [v5] = some y5 := by simpa [eI, g5] using hf 5 ⟨ "B", 3, 5, false, "", "", 40⟩ rfl
    have f6 : DataW.trod enc Tryz.prog w 0 (fun _ => true) true n 3 [v6] = some y6 := by simpa [eI, g6] using hf 6 ⟨ "C", 3, 6, false, "", "", 48⟩ rfl
    have f7 : DataW.trod enc Tryz.prog w 0 (fun _ => true) true n 4 [v7] = some y7 := by simpa [eO, g7] using hf 7 ⟨ "Ok", 4, 7, false, "", "", 56⟩ rfl
    have f8 : DataW.trod enc Tryz.prog w 0 (fun _ => true) true n 35 [v8] = some y8 := by simpa [eE, g8] using hf 8 ⟨ "Entries", 35, 8, false, "", "", 64⟩ rfl
    have f9 : DataW.trod enc Tryz.prog w 0 (fun _ => true) true n 36 [v9] = some y9 := by simpa [eB, g9] using hf 9 ⟨ "Data", 36, 9, false, "", "", 88⟩ rfl
    obtain ⟨n0, r0, w0⟩ := open_num Tryz.underlying3 f0
    obtain ⟨n1, r1, w1⟩ := open_num Tryz.underlying3 f1
    obtain ⟨n2, r2, w2⟩ := open_num Tryz.underlying3 f2
    obtain ⟨n3, r3, w3⟩ := open_num Tryz.underlying3 f3
    obtain ⟨n4, r4, w4⟩ := open_num Tryz.underlying3 f4
    obtain ⟨n5, r5, w5⟩ := open_num Tryz.underlying3 f5
    obtain ⟨n6, r6, w6⟩ := open_num Tryz.underlying3 f6
    obtain ⟨b7, r7, _⟩ := DataW.trod_bool Tryz.underlying4 f7
    obtain ⟨a8, l8, c8, r8, h8, g8'⟩ := open_listW entL EntZ Tryz.underlying35 (by kernel_rfl) (fun fu cs x h hl hw => open_entW w fu cs x h hl hw) f8 (fun q hq => hw q (weights_part Tryz.underlying38 (i := 8) (ti := 35) rfl (by simp [g8]) hq))
    obtain ⟨v, bs, r9, hb⟩ := open_bytesAt f9
    simp at r0 r1 r2 r3 r4 r5 r6 r7 r8 r9
    subst r0 r1 r2 r3 r4 r5 r6 r7 r8 r9
    exact ⟨⟨n0, n1, n2, n3, n4, n5, n6, b7, l8, bs⟩, ⟨_, _, rfl, h8, hb⟩, ⟨w0, w1, w2, w3, w4, w5, w6, fun e he => (g8' e he).1⟩, fun e he => (g8' e he).2⟩
end

end Go.Proofs.YtnjdepojmnniaaaGreatDoor

/- The frame of a law (LawZ), with all the arguments' weights handed on. Printed by gen_wide.py. -/
namespace Go.Proofs.YtnjdepojmnniaaaGreatDoor
open Go Go.RowKit Go.WideShapes Go.ChangeShapes Go.ChangeAt

set_option maxRecDepth 100000 in
/-- From the contract «to» the row's premise, where variables are listed; the arguments' sizes are handed on. -/
theorem laid_lifted_weights {k : FuncId} {fn : Func} {s : ChangeSpec} {fresh handsOn : Bool} {l : List (String × DataW Unit)} (os : Os) (started : os.Started) (H : Type) (enc : TypeId × Value → H)
    (noInit : Tryz.checked.prog.inits.idxOf? k = none) (hfn : Tryz.checked.prog.funcs[k]? = some fn) (hres : fn.resultTypes = #[4]) (hvars : s.vars = []) (hall : (fn.params.toList.all fun t => Tryz.prog.readableRec t && decide (t < Tryz.prog.types.size)) = true)
    (hspec : ∀ ds : List (DataW H), ds.length = fn.params.size → s.fn H ds = { results := [.lit (.bool true)], args := ds })
    (witness : ∃ (w : World) (tape : Tape) (i : Input), w.os = os ∧ (w.forCall tape i).Shaped Tryz.checked.prog ∧ i.vars = [] ∧ Input.okWide Tryz.checked.prog (w.forCall tape i) .any w.heap.size k i ∧
      ((s.pre enc Tryz.checked.prog fn [] false (w.forCall tape i).memory i.args ∧ laidMetH Tryz.prog l (w.forCall tape i).memory) ∧ sizedMet enc Tryz.checked.prog fn (OpenSpec.ofChange s) false (w.forCall tape i).memory i.args) ∧ ({} : Assume).holds Tryz.checked.prog (lone (Frame.enter Tryz.checked.prog k i.args .normal) [] (w.forCall tape i)))
    (contract : ∀ (W : World) (base : Nat) (args : Array Value) (ds : List (DataW H)) (p : List MemPlace), (∀ (j : Nat) t v, fn.params[j]? = some t → args[j]? = some v → Value.okWide Tryz.prog W .any base t v) →
      DataW.TrodAll enc Tryz.prog W 0 (fun _ => true) true fn.params.toList args.toList ds p → (∀ x ∈ p, x.block < W.heap.size) → laidMetH Tryz.prog l W → (∀ (j : Nat) (t : TypeId) (d : DataW H), fn.params[j]? = some t → ds[j]? = some d → ∀ q ∈ d.weights Tryz.prog t, q ≤ reachBytes) → Calls Tryz.prog k args W fun e W' => e = .returned (.bool true) ∧ Below W.heap.size W W') :
    ReturnsInHanded {} Tryz.checked os k .any (fun w args => (s.pre enc Tryz.prog fn [] false w args ∧ laidMetH Tryz.prog l w) ∧ sizedMet enc Tryz.prog fn (OpenSpec.ofChange s) false w args) (s.post enc Tryz.prog fn false fresh handsOn false) := by
  refine returnsInHanded_of_change_and (C := Tryz.checked) (X := fun w _ => laidMetH Tryz.prog l w) (fun _ _ _ hh h => h.of_heap hh) Tryz.own started noInit hfn witness ?_
  intro W base args ds gs before hval0 hW hc hZ hL _
  have hlt : ∀ x ∈ before, x.block < W.heap.size := fun x hx => hW.lt x hx
  have hW' := hW
  obtain ⟨p, q, hA, hV, rfl, hz, hn⟩ := hW
  refine (contract W base args ds p hval0 hA (fun x hx => hlt x (List.mem_append_left _ hx)) hL (fun j t d ht hd q hq => by simpa using List.all_eq_true.1 hZ q (DataW.weights_mem_each (j := j) (t := t) (by rw [List.getElem?_append_left (by have := (Array.getElem?_eq_some_iff.1 ht).1; simpa using this)]; simpa using ht) (by rw [List.getElem?_append_left (List.getElem?_eq_some_iff.1 hd).1]; exact hd) q hq))).mono fun e W' ⟨he, hb⟩ => ?_
  subst he
  exact ⟨_, rfl, law_post Tryz.laidOut Tryz.underlying4 hres hvars hall hspec hW' hb⟩

end Go.Proofs.YtnjdepojmnniaaaGreatDoor

/- A value that comes in, opened. No function is named here. -/
namespace Go.Proofs.YtnjdepojmnniaaaGreatDoor
open Go Go.RowKit Go.WideShapes Go.ChangeShapes Go.ChangeAt

theorem i64_of_wf {n : Int} (h : (Lit.int .i64 n).wf = true) : I64 n := by
  have e1 : IntKind.i64.min = -9223372036854775808 := by rfl
  have e2 : IntKind.i64.max = 9223372036854775807 := by rfl
  simp [Lit.wf, e1, e2] at h
  exact ⟨by omega, by omega⟩
theorem maxLen_le {n : Nat} (h : n ≤ maxLen) : n ≤ 9223372036854775807 := by unfold maxLen at h; omega

section
variable {H : Type} {enc : TypeId × Value → H}
set_option maxRecDepth 100000 in
theorem open_val_arg {w : World} {r : Reach} {b0 : Nat} {v : Value} {d : DataW H} {p : List MemPlace} (hv : Value.okWide Tryz.prog w r b0 32 v) (h : DataW.Trod enc Tryz.prog w 0 (fun _ => true) true 32 v d p) :
    ∃ x : ValD, v = valV x ∧ I64 x.kind ∧ I64 x.n ∧ x.s.size ≤ 9223372036854775807 := by
  obtain ⟨v0, v1, v2, y0, y1, y2, n, rfl, _, _, h0, h1, h2⟩ := Joins.open_agg3 Tryz.underlying32 (by kernel_rfl) (by kernel_rfl) hv h
  obtain ⟨a, e0, x0, w0⟩ := DataW.trod_int Tryz.underlying3 h0
  obtain ⟨b, e1, x1, w1⟩ := DataW.trod_int Tryz.underlying2 h1
  obtain ⟨s, e2, x2, w2⟩ := DataW.trod_string Tryz.underlying9 h2
  simp at e0 e1 e2
  subst e0 e1 e2
  exact ⟨⟨a, b, s⟩, rfl, i64_of_wf w0, i64_of_wf w1, maxLen_le w2⟩
end

end Go.Proofs.YtnjdepojmnniaaaGreatDoor

/- CmdReplies, walked. -/
namespace Go.Proofs.YtnjdepojmnniaaaGreatDoor
open Go Go.RowKit

structure ReplyI (r : ReplyD) : Prop where
  err : I64 r.err
  n : I64 r.n
  vkind : I64 r.value.kind
  vn : I64 r.value.n
theorem ReplyI.w {r : ReplyD} (h : ReplyI r) (hs : shortR r = true) : ReplyW r := by
  unfold shortR at hs
  simp at hs
  exact ⟨h.err, h.n, h.vkind, h.vn, by omega⟩

end Go.Proofs.YtnjdepojmnniaaaGreatDoor

/- Commands and replies that come in, opened. No function is named here. -/
namespace Go.Proofs.YtnjdepojmnniaaaGreatDoor
open Go Go.RowKit Go.WideShapes Go.ChangeShapes Go.ChangeAt

section
variable {H : Type} {enc : TypeId × Value → H}
set_option maxRecDepth 100000 in
theorem open_val (w : World) (fuel : Nat) (cs : List Value) (x : DataW H × List MemPlace) (h : DataW.trod enc Tryz.prog w 0 (fun _ => true) true fuel 32 cs = some x) (_hl : cs.length = 3) : ∃ v : ValD, cs = [.int .i64 v.kind, .int .i64 v.n, .string v.s] ∧ I64 v.kind ∧ I64 v.n ∧ v.s.size ≤ 9223372036854775807 := by
  obtain ⟨xs, n, rfl, _, hl, hxs, hf⟩ := DataW.trod_struct Tryz.underlying32 h
  have e3 : Tryz.prog.cellsOf 32 = 3 := by kernel_rfl
  have eI : Tryz.prog.cellsOf 3 = 1 := by kernel_rfl
  have eJ : Tryz.prog.cellsOf 2 = 1 := by kernel_rfl
  have eS : Tryz.prog.cellsOf 9 = 1 := by kernel_rfl
  rw [e3] at hl
  have hx : ∀ i, i < 3 → ∃ y, xs[i]? = some y := fun i hi => ⟨xs[i]'(by rw [hxs]; exact hi), List.getElem?_eq_getElem _⟩
  match cs, hl with
  | [v0, v1, v2], _ =>
    obtain ⟨y0, g0⟩ := hx 0 (by omega)
    obtain ⟨y1, g1⟩ := hx 1 (by omega)
    obtain ⟨y2, g2⟩ := hx 2 (by omega)
    have f0 : DataW.trod enc Tryz.prog w 0 (fun _ => true) true n 3 [v0] = some y0 := by simpa [eI, g0] using hf 0 ⟨ "Kind", 3, 0, false, "", "", 0⟩ rfl
    have f1 : DataW.trod enc Tryz.prog w 0 (fun _ => true) true n 2 [v1] = some y1 := by simpa [eJ, g1] using hf 1 ⟨ "N", 2, 1, false, "", "", 8⟩ rfl
    have f2 : DataW.trod enc Tryz.prog w 0 (fun _ => true) true n 9 [v2] = some y2 := by simpa [eS, g2] using hf 2 ⟨ "S", 9, 2, false, "", "", 16⟩ rfl
    obtain ⟨n0, r0, _, w0⟩ := DataW.trod_int Tryz.underlying3 f0
    obtain ⟨n1, r1, _, w1⟩ := DataW.trod_int Tryz.underlying2 f1
    obtain ⟨s, r2, _, w2⟩ := DataW.trod_string Tryz.underlying9 f2
    simp at r0 r1 r2
    subst r0 r1 r2
    exact ⟨⟨n0, n1, s⟩, rfl, i64_of_wf w0, i64_of_wf w1, maxLen_le w2⟩

set_option maxRecDepth 100000 in
theorem open_cmd (w : World) (fuel : Nat) (cs : List Value) (x : DataW H × List MemPlace) (h : DataW.trod enc Tryz.prog w 0 (fun _ => true) true fuel 34 cs = some x) (_hl : cs.length = 8) :
    ∃ c : CmdD, cs = [.int .i64 c.kind, .int .i64 c.session, .int .i64 c.seq, .string c.field, .int .i64 c.version, .int .i64 c.value.kind, .int .i64 c.value.n, .string c.value.s] ∧ CmdI c := by
  obtain ⟨xs, n, rfl, _, hl, hxs, hf⟩ := DataW.trod_struct Tryz.underlying34 h
  have e8 : Tryz.prog.cellsOf 34 = 8 := by kernel_rfl
  have e3 : Tryz.prog.cellsOf 32 = 3 := by kernel_rfl
  have eI : Tryz.prog.cellsOf 3 = 1 := by kernel_rfl
  have eS : Tryz.prog.cellsOf 9 = 1 := by kernel_rfl
  rw [e8] at hl
  have hx : ∀ i, i < 6 → ∃ y, xs[i]? = some y := fun i hi => ⟨xs[i]'(by rw [hxs]; exact hi), List.getElem?_eq_getElem _⟩
  match cs, hl with
  | [v0, v1, v2, v3, v4, v5, v6, v7], _ =>
    obtain ⟨y0, g0⟩ := hx 0 (by omega)
    obtain ⟨y1, g1⟩ := hx 1 (by omega)
    obtain ⟨y2, g2⟩ := hx 2 (by omega)
    obtain ⟨y3, g3⟩ := hx 3 (by omega)
    obtain ⟨y4, g4⟩ := hx 4 (by omega)
    obtain ⟨y5, g5⟩ := hx 5 (by omega)
    have f0 : DataW.trod enc Tryz.prog w 0 (fun _ => true) true n 3 [v0] = some y0 := by simpa [eI, g0] using hf 0 ⟨ "Kind", 3, 0, false, "", "", 0⟩ rfl
    have f1 : DataW.trod enc Tryz.prog w 0 (fun _ => true) true n 3 [v1] = some y1 := by simpa [eI, g1] using hf 1 ⟨ "Session", 3, 1, false, "", "", 8⟩ rfl
    have f2 : DataW.trod enc Tryz.prog w 0 (fun _ => true) true n 3 [v2] = some y2 := by simpa [eI, g2] using hf 2 ⟨ "Seq", 3, 2, false, "", "", 16⟩ rfl
    have f3 : DataW.trod enc Tryz.prog w 0 (fun _ => true) true n 9 [v3] = some y3 := by simpa [eS, g3] using hf 3 ⟨ "Field", 9, 3, false, "", "", 24⟩ rfl
    have f4 : DataW.trod enc Tryz.prog w 0 (fun _ => true) true n 3 [v4] = some y4 := by simpa [eI, g4] using hf 4 ⟨ "Version", 3, 4, false, "", "", 40⟩ rfl
    have f5 : DataW.trod enc Tryz.prog w 0 (fun _ => true) true n 32 [v5, v6, v7] = some y5 := by simpa [e3, g5] using hf 5 ⟨ "Value", 32, 5, false, "", "", 48⟩ rfl
    obtain ⟨n0, r0, _, w0⟩ := DataW.trod_int Tryz.underlying3 f0
    obtain ⟨n1, r1, _, w1⟩ := DataW.trod_int Tryz.underlying3 f1
    obtain ⟨n2, r2, _, w2⟩ := DataW.trod_int Tryz.underlying3 f2
    obtain ⟨s, r3, _, _⟩ := DataW.trod_string Tryz.underlying9 f3
    obtain ⟨n4, r4, _, w4⟩ := DataW.trod_int Tryz.underlying3 f4
    obtain ⟨v, r5, h1, h2, _⟩ := open_val w n _ y5 f5 rfl
    simp at r0 r1 r2 r3 r4 r5
    obtain ⟨rfl, rfl, rfl⟩ := r5
    subst r0 r1 r2 r3 r4
    exact ⟨⟨n0, n1, n2, s, n4, v⟩, rfl, ⟨i64_of_wf w0, i64_of_wf w1, i64_of_wf w2, i64_of_wf w4, h1, h2⟩⟩

set_option maxRecDepth 100000 in
theorem open_reply (w : World) (fuel : Nat) (cs : List Value) (x : DataW H × List MemPlace) (h : DataW.trod enc Tryz.prog w 0 (fun _ => true) true fuel 40 cs = some x) (_hl : cs.length = 5) :
    ∃ r : ReplyD, cs = [.int .i64 r.err, .int .i64 r.n, .int .i64 r.value.kind, .int .i64 r.value.n, .string r.value.s] ∧ ReplyI r := by
  obtain ⟨xs, n, rfl, _, hl, hxs, hf⟩ := DataW.trod_struct Tryz.underlying40 h
  have e5 : Tryz.prog.cellsOf 40 = 5 := by kernel_rfl
  have e3 : Tryz.prog.cellsOf 32 = 3 := by kernel_rfl
  have eI : Tryz.prog.cellsOf 3 = 1 := by kernel_rfl
  have eE : Tryz.prog.cellsOf 27 = 1 := by kernel_rfl
  rw [e5] at hl
  have hx : ∀ i, i < 3 → ∃ y, xs[i]? = some y := fun i hi => ⟨xs[i]'(by rw [hxs]; exact hi), List.getElem?_eq_getElem _⟩
  match cs, hl with
  | [v0, v1, v2, v3, v4], _ =>
    obtain ⟨y0, g0⟩ := hx 0 (by omega)
    obtain ⟨y1, g1⟩ := hx 1 (by omega)
    obtain ⟨y2, g2⟩ := hx 2 (by omega)
    have f0 : DataW.trod enc Tryz.prog w 0 (fun _ => true) true n 27 [v0] = some y0 := by simpa [eE, g0] using hf 0 ⟨ "Err", 27, 0, false, "", "", 0⟩ rfl
    have f1 : DataW.trod enc Tryz.prog w 0 (fun _ => true) true n 3 [v1] = some y1 := by simpa [eI, g1] using hf 1 ⟨ "N", 3, 1, false, "", "", 8⟩ rfl
    have f2 : DataW.trod enc Tryz.prog w 0 (fun _ => true) true n 32 [v2, v3, v4] = some y2 := by simpa [e3, g2] using hf 2 ⟨ "Value", 32, 2, false, "", "", 16⟩ rfl
    obtain ⟨n0, r0, _, w0⟩ := DataW.trod_int Tryz.underlying27 f0
    obtain ⟨n1, r1, _, w1⟩ := DataW.trod_int Tryz.underlying3 f1
    obtain ⟨v, r2, h1, h2, _⟩ := open_val w n _ y2 f2 rfl
    simp at r0 r1 r2
    obtain ⟨rfl, rfl, rfl⟩ := r2
    subst r0 r1
    exact ⟨⟨n0, n1, v⟩, rfl, ⟨i64_of_wf w0, i64_of_wf w1, h1, h2⟩⟩

set_option maxRecDepth 100000 in
theorem open_cmd_arg {w : World} {r : Reach} {b0 : Nat} {v : Value} {d : DataW H} {p : List MemPlace} (hv : Value.okWide Tryz.prog w r b0 34 v) (h : DataW.Trod enc Tryz.prog w 0 (fun _ => true) true 34 v d p) : ∃ c : CmdD, v = cmdV c ∧ CmdI c := by
  obtain ⟨cs, rfl, hsz⟩ := okWide_struct Tryz.underlying34 hv
  obtain ⟨fuel, hf⟩ := h
  obtain ⟨c, h1, h2⟩ := open_cmd w fuel _ _ hf (by show cs.toList.length = 8; rw [Array.length_toList, hsz]; kernel_rfl)
  exact ⟨c, by unfold cmdV; rw [show cs = #[.int .i64 c.kind, .int .i64 c.session, .int .i64 c.seq, .string c.field, .int .i64 c.version, .int .i64 c.value.kind, .int .i64 c.value.n, .string c.value.s] from Array.toList_inj.1 h1], h2⟩
set_option maxRecDepth 100000 in
theorem open_reply_arg {w : World} {r : Reach} {b0 : Nat} {v : Value} {d : DataW H} {p : List MemPlace} (hv : Value.okWide Tryz.prog w r b0 40 v) (h : DataW.Trod enc Tryz.prog w 0 (fun _ => true) true 40 v d p) : ∃ x : ReplyD, v = replyV x ∧ ReplyI x := by
  obtain ⟨cs, rfl, hsz⟩ := okWide_struct Tryz.underlying40 hv
  obtain ⟨fuel, hf⟩ := h
  obtain ⟨c, h1, h2⟩ := open_reply w fuel _ _ hf (by show cs.toList.length = 5; rw [Array.length_toList, hsz]; kernel_rfl)
  exact ⟨c, by unfold replyV; rw [show cs = #[.int .i64 c.err, .int .i64 c.n, .int .i64 c.value.kind, .int .i64 c.value.n, .string c.value.s] from Array.toList_inj.1 h1], h2⟩
set_option maxRecDepth 100000 in
/-- A byte. -/
theorem open_byte {w : World} {r : Reach} {b0 : Nat} {v : Value} {d : DataW H} {p : List MemPlace} (hv : Value.okWide Tryz.prog w r b0 5 v) (h : DataW.Trod enc Tryz.prog w 0 (fun _ => true) true 5 v d p) : ∃ x : UInt8, v = .int .u8 x.toNat := by
  obtain ⟨n, rfl, _, _, hw⟩ := open_int Tryz.underlying5 hv h
  have e1 : IntKind.u8.min = 0 := by rfl
  have e2 : IntKind.u8.max = 255 := by rfl
  simp [Lit.wf, e1, e2] at hw
  refine ⟨UInt8.ofNat n.toNat, ?_⟩
  have : (UInt8.ofNat n.toNat).toNat = n.toNat := by simp; omega
  rw [this, Int.toNat_of_nonneg hw.1]
theorem trodAll_four {P : Program} {w : World} {base : Nat} {spare : Nat → Bool} {held : Bool} {t t' t2 t3 : TypeId} {args : Array Value} {ds : List (DataW H)} {ps : List MemPlace} (h : DataW.TrodAll enc P w base spare held [t, t', t2, t3] args.toList ds ps) :
    ∃ v v' v2 v3 d d' d2 d3 p p' p2 p3, args = #[v, v', v2, v3] ∧ ds = [d, d', d2, d3] ∧ ps = p ++ (p' ++ (p2 ++ p3)) ∧ DataW.Trod enc P w base spare held t v d p ∧ DataW.Trod enc P w base spare held t' v' d' p' ∧ DataW.Trod enc P w base spare held t2 v2 d2 p2 ∧ DataW.Trod enc P w base spare held t3 v3 d3 p3 := by
  obtain ⟨v, vs, d, ds', p, q, hargs, rfl, rfl, hd, hrest⟩ := trodAll_cons h
  obtain ⟨v', vs', d', ds'', p', q', rfl, rfl, rfl, hd', hrest'⟩ := trodAll_cons hrest
  obtain ⟨v2, vs2, d2, ds2, p2, q2, rfl, rfl, rfl, hd2, hrest2⟩ := trodAll_cons hrest'
  obtain ⟨v3, vs3, d3, ds3, p3, q3, rfl, rfl, rfl, hd3, hrest3⟩ := trodAll_cons hrest2
  obtain ⟨rfl, rfl, rfl⟩ := trodAll_nil hrest3
  exact ⟨v, v', v2, v3, d, d', d2, d3, p, p', p2, p3, by cases args; simp_all, rfl, by simp, hd, hd', hd2, hd3⟩
end

end Go.Proofs.YtnjdepojmnniaaaGreatDoor

/- The scripts of ClientSame and ClientPlays, opened. Printed by gen_opend.py. -/
namespace Go.Proofs.YtnjdepojmnniaaaGreatDoor
open Go Go.RowKit Go.WideShapes Go.ChangeShapes Go.Deep

structure OpD24 where
  kind : Int
  n : Int
  c : CmdD
  m : MsgD
  r : ReplyD
def op24Cells (o : OpD24) (ev dv : Value) : List Value := [.int .i64 o.kind, .int .i64 o.n, .int .i64 o.c.kind, .int .i64 o.c.session, .int .i64 o.c.seq, .string o.c.field, .int .i64 o.c.version, .int .i64 o.c.value.kind, .int .i64 o.c.value.n, .string o.c.value.s,
  .int .i64 o.m.kind, .int .i64 o.m.frm, .int .i64 o.m.«to», .int .i64 o.m.term, .int .i64 o.m.a, .int .i64 o.m.b, .int .i64 o.m.c, .bool o.m.ok, ev, dv,
  .int .i64 o.r.err, .int .i64 o.r.n, .int .i64 o.r.value.kind, .int .i64 o.r.value.n, .string o.r.value.s]
def op24L : Lay OpD24 where
  size := 25
  pos := by decide
  at_ w P cs o := ∃ ev dv, cs = op24Cells o ev dv ∧ ListAt entL w P ev o.m.entries ∧ BytesAt w P dv o.m.data
  len := fun ⟨ev, dv, e, _⟩ => by rw [e]; rfl
  one := fun ⟨ev, dv, e, h1, h2⟩ u hu => by
    rw [e] at hu
    obtain ⟨a, c, rfl⟩ := h1.form
    obtain ⟨a2, c2, rfl⟩ := h2.form
    simp [op24Cells] at hu
    rcases hu with rfl | rfl | rfl | rfl | rfl | rfl | rfl | rfl | rfl | rfl | rfl | rfl | rfl | rfl | rfl | rfl | rfl | rfl | rfl | rfl | rfl | rfl | rfl | rfl | rfl <;> rfl
  keep := fun ⟨ev, dv, e, h1, h2⟩ k hP => ⟨ev, dv, e, h1.keep k hP, h2.keep k hP⟩
  mono := fun ⟨ev, dv, e, h1, h2⟩ hP => ⟨ev, dv, e, h1.mono hP, h2.mono hP⟩
structure Op24Z (o : OpD24) : Prop where
  kind : (Lit.int .i64 o.kind).wf = true
  n : (Lit.int .i64 o.n).wf = true
  c : CmdI o.c
  m : MsgZ o.m
  r : ReplyI o.r

section
variable {H : Type} {enc : TypeId × Value → H}
set_option maxRecDepth 100000 in
theorem open_op24 (w : World) (fuel : Nat) (cs : List Value) (x : DataW H × List MemPlace) (h : DataW.trod enc Tryz.prog w 0 (fun _ => true) true fuel 42 cs = some x) (_hl : cs.length = 25) (hw : ∀ q ∈ x.1.weights Tryz.prog 42, q ≤ reachBytes) :
    ∃ o, op24L.at_ w (fun b => b < w.heap.size) cs o ∧ Op24Z o := by
  obtain ⟨xs, n, rfl, rfl, hl, hxs, hf⟩ := DataW.trod_struct Tryz.underlying42 h
  have e25 : Tryz.prog.cellsOf 42 = 25 := by kernel_rfl
  have eI : Tryz.prog.cellsOf 3 = 1 := by kernel_rfl
  have eC : Tryz.prog.cellsOf 34 = 8 := by kernel_rfl
  have eM : Tryz.prog.cellsOf 38 = 10 := by kernel_rfl
  have eR : Tryz.prog.cellsOf 40 = 5 := by kernel_rfl
  rw [e25] at hl
  have hx : ∀ i, i < 5 → ∃ y, xs[i]? = some y := fun i hi => ⟨xs[i]'(by rw [hxs]; exact hi), List.getElem?_eq_getElem _⟩
  match cs, hl with
  | [v0, v1, v2, v3, v4, v5, v6, v7, v8, v9, v10, v11, v12, v13, v14, v15, v16, v17, v18, v19, v20, v21, v22, v23, v24], _ =>
    obtain ⟨y0, g0⟩ := hx 0 (by omega)
    obtain ⟨y1, g1⟩ := hx 1 (by omega)
    obtain ⟨y2, g2⟩ := hx 2 (by omega)
    obtain ⟨y3, g3⟩ := hx 3 (by omega)
    obtain ⟨y4, g4⟩ := hx 4 (by omega)
    have f0 : DataW.trod enc Tryz.prog w 0 (fun _ => true) true n 3 [v0] = some y0 := by simpa [eI, g0] using hf 0 ⟨ "Kind", 3, 0, false, "", "", 0⟩ rfl
    have f1 : DataW.trod enc Tryz.prog w 0 (fun _ => true) true n 3 [v1] = some y1 := by simpa [eI, g1] using hf 1 ⟨ "N", 3, 1, false, "", "", 8⟩ rfl
    have f2 : DataW.trod enc Tryz.prog w 0 (fun _ => true) true n 34 [v2, v3, v4, v5, v6, v7, v8, v9] = some y2 := by simpa [eC, g2] using hf 2 ⟨ "C", 34, 2, false, "", "", 16⟩ rfl
    have f3 : DataW.trod enc Tryz.prog w 0 (fun _ => true) true n 38 [v10, v11, v12, v13, v14, v15, v16, v17, v18, v19] = some y3 := by simpa [eM, g3] using hf 3 ⟨ "M", 38, 10, false, "", "", 96⟩ rfl
    have f4 : DataW.trod enc Tryz.prog w 0 (fun _ => true) true n 40 [v20, v21, v22, v23, v24] = some y4 := by simpa [eR, g4] using hf 4 ⟨ "R", 40, 20, false, "", "", 208⟩ rfl
    obtain ⟨n0, r0, w0⟩ := open_num Tryz.underlying3 f0
    obtain ⟨n1, r1, w1⟩ := open_num Tryz.underlying3 f1
    obtain ⟨c2, r2, w2⟩ := open_cmd w n _ y2 f2 rfl
    obtain ⟨m3, ⟨ev, dv, r3, he, hd⟩, w3⟩ := open_msgW w n _ y3 f3 rfl (fun q hq => hw q (weights_part Tryz.underlying42 (i := 3) (ti := 38) rfl (by simp [g3]) hq))
    obtain ⟨c4, r4, w4⟩ := open_reply w n _ y4 f4 rfl
    simp only [List.cons.injEq, and_true] at r0 r1 r2 r3 r4
    refine ⟨⟨n0, n1, c2, m3, c4⟩, ⟨ev, dv, ?_, he, hd⟩, ⟨w0, w1, w2, w3, w4⟩⟩
    obtain ⟨p0, p1, p2, p3, p4, p5, p6, p7⟩ := r2
    obtain ⟨q0, q1, q2, q3, q4, q5, q6, q7, q8, q9⟩ := r3
    obtain ⟨t0, t1, t2, t3, t4⟩ := r4
    rw [r0, r1, p0, p1, p2, p3, p4, p5, p6, p7, q0, q1, q2, q3, q4, q5, q6, q7, q8, q9, t0, t1, t2, t3, t4]
    rfl
theorem open_ops24 {w : World} {a : Option Addr} {len cap : Nat} {d : DataW H} {ps : List MemPlace} (h : DataW.Trod enc Tryz.prog w 0 (fun _ => true) true 22 (.slice a len cap) d ps) (hw : ∀ q ∈ d.weights Tryz.prog 22, q ≤ reachBytes) :
    ∃ l : List OpD24, l.length = len ∧ ListAt op24L w (fun b => b < w.heap.size) (.slice a l.length cap) l ∧ ∀ e ∈ l, Op24Z e :=
  open_listW_arg op24L Op24Z Tryz.underlying22 (by kernel_rfl) (fun fu cs x h hl hw => open_op24 _ fu cs x h hl hw) h hw
end

end Go.Proofs.YtnjdepojmnniaaaGreatDoor
