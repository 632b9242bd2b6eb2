/- Joined of OpenW, MsgW. -/
import Derived.Test.YtbbdmmhpbeleoaaGreatDoorQ42
import Derived.Test.YtbbdmmhpbeleoaaGreatDoorQ32
import Derived.Test.YtbbdmmhpbeleoaaGreatDoorQ38

set_option linter.unusedSimpArgs false
set_option linter.unusedVariables false

/- The arguments of the laws, opened with their sizes: how long the bytes within an entry may be. Printed by gen_wide.py. -/
namespace Go.Proofs.YtbbdmmhpbeleoaaGreatDoor
open Go Go.RowKit Go.WideShapes Go.ChangeShapes Go.Deep

section
variable {H : Type} {enc : TypeId × Value → H}

theorem weightsAll_mem {P : Program} {e : TypeId} {d : DataW H} {q : Nat} (hq : q ∈ d.weights P e) : ∀ {l : List (DataW H)}, d ∈ l → q ∈ DataW.weightsAll P e l
  | x :: l, h => by
    simp only [DataW.weightsAll, List.mem_append]
    rcases List.mem_cons.1 h with rfl | h
    · exact .inl hq
    · exact .inr (weightsAll_mem hq h)
theorem weights_elem {P : Program} {st et : TypeId} (ht : P.underlying st = some (.slice et)) {D : Nat → DataW H} {len k : Nat} {sp : List (DataW H)} (hk : k < len) {q : Nat} (hq : q ∈ (D k).weights P et) : q ∈ (DataW.slice ((List.range len).map D) sp).weights P st := by
  simp only [DataW.weights, ht, List.mem_cons, List.mem_append]
  exact .inr (.inl (weightsAll_mem hq (List.mem_map.2 ⟨k, by simpa using hk, rfl⟩)))
theorem weights_part {P : Program} {t ti : TypeId} {fs : Array Field} (ht : P.underlying t = some (.struct fs)) {parts : List (DataW H)} {i : Nat} {d : DataW H} (h1 : (fs.toList.map (·.type))[i]? = some ti) (h2 : parts[i]? = some d) {q : Nat} (hq : q ∈ d.weights P ti) : q ∈ (DataW.agg parts).weights P t := by
  simp only [DataW.weights, ht]
  exact DataW.weights_mem_each h1 h2 q hq
def EntZ (e : Ent) : Prop := EntW e ∧ e.data.length ≤ 140737488351232
def MsgZ (m : MsgD) : Prop := MsgW m ∧ ∀ e ∈ m.entries, e.data.length ≤ 140737488351232
theorem open_bytesAtW {w : World} {fuel : Nat} {cs : List Value} {x : DataW H × List MemPlace} (h : DataW.trod enc Tryz.prog w 0 (fun _ => true) true fuel 28 cs = some x) (hw : ∀ q ∈ x.1.weights Tryz.prog 28, q ≤ reachBytes) :
    ∃ v bs, cs = [v] ∧ BytesAt w (fun b => b < w.heap.size) v bs ∧ bs.length ≤ 140737488351232 := by
  obtain ⟨a, c, bs, rfl, h1, h2⟩ := open_bytes h
  refine ⟨_, bs, rfl, ⟨h1, fun hn b hb => h2 b hb hn⟩, ?_⟩
  exact bytes_short (a := a) (len := bs.length) (cap := c) (d := x.1) (ps := x.2) ⟨fuel, h⟩ (fun el sp e => hw _ (by rw [e]; simp [DataW.weights, Tryz.underlying28]))

theorem open_listW {α : Type} (L : Lay α) {et st : TypeId} (good : α → Prop) (ht : Tryz.prog.underlying st = some (.slice et)) (hcell : Tryz.prog.cellsOf et = L.size) {w : World}
    (hone : ∀ (fuel : Nat) (cs : List Value) (x : DataW H × List MemPlace), DataW.trod enc Tryz.prog w 0 (fun _ => true) true fuel et cs = some x → cs.length = L.size → (∀ q ∈ x.1.weights Tryz.prog et, q ≤ reachBytes) → ∃ e, L.at_ w (fun b => b < w.heap.size) cs e ∧ good e)
    {fuel : Nat} {cs : List Value} {x : DataW H × List MemPlace} (h : DataW.trod enc Tryz.prog w 0 (fun _ => true) true fuel st cs = some x) (hw : ∀ q ∈ x.1.weights Tryz.prog st, q ≤ reachBytes) :
    ∃ (a : Option Addr) (l : List α) (c : Nat), cs = [.slice a l.length c] ∧ ListAt L w (fun b => b < w.heap.size) (.slice a l.length c) l ∧ ∀ e ∈ l, good e := by
  rcases open_slice ht h with ⟨rfl, _⟩ | ⟨a, len, cap, m, n, D, Pl, rfl, _, hlc, hcm, hm, rfl, hel⟩
  · exact ⟨none, [], 0, rfl, ListAt.nil _ _ _ _, by simp⟩
  · simp only [if_true] at hm
    subst hm
    rw [hcell] at hel
    have hp := L.pos
    have hsp : 0 < len → a.spot = none := fun h0 => by
      obtain ⟨cs', h1, h2⟩ := hel 0 (by omega)
      have := (World.cells?_some h1).2.2 0 (by omega)
      have hl := (World.cells?_some h1).2.1
      rw [List.getElem?_eq_getElem (by omega)] at this
      simpa [Addr.add] using spot_of_cell this
    have key : ∀ k, k ≤ len → ∃ (css : List (List Value)) (l : List α), l.length = k ∧ ElemsAt L w (fun b => b < w.heap.size) css l ∧ (∀ (j : Nat) (c : List Value), css[j]? = some c → w.cells? 0 (a.add (j * L.size)) L.size = some c) ∧ ∀ e ∈ l, good e := by
      intro k
      induction k with
      | zero => exact fun _ => ⟨[], [], rfl, ElemsAt.nil _ _, by simp, by simp⟩
      | succ k ih =>
        intro hk
        obtain ⟨css, l, hl, he, hc, hg⟩ := ih (by omega)
        obtain ⟨cs', h1, h2⟩ := hel k (by omega)
        obtain ⟨e, e1, e2⟩ := hone _ _ _ h2 (World.cells?_some h1).2.1 (fun q hq => hw q (weights_elem ht (by omega) hq))
        refine ⟨css ++ [cs'], l ++ [e], by simp [hl], he.snoc e1, fun j c hj => ?_, fun x hx => ?_⟩
        · rw [List.getElem?_append] at hj
          split at hj
          · exact hc j c hj
          · have h3 := he.1
            have h4 : j - css.length = 0 := by
              have := (List.getElem?_eq_some_iff.1 hj).1
              simp at this
              omega
            rw [h4] at hj
            simp at hj
            subst hj
            rw [show j = k by omega]
            exact h1
        · rcases List.mem_append.1 hx with hx | hx
          · exact hg x hx
          · simp at hx
            rw [hx]
            exact e2
    obtain ⟨css, l, hl, he, hc, hg⟩ := key len (Nat.le_refl _)
    have cell : ∀ (i r : Nat) (u : Value) (c : List Value), css[i]? = some c → c[r]? = some u → r < L.size → w.cell? ⟨a.block, a.off + i * L.size + r, none⟩ = some u := fun i r u c h1 h2 h3 => by
      have h4 := (World.cells?_some (hc i c h1)).2.2 r h3
      have hi : i < len := by have := (List.getElem?_eq_some_iff.1 h1).1; rw [he.1, hl] at this; exact this
      rw [addr_at (hsp (by omega)), addr_at rfl] at h4
      rw [← h2]
      exact h4
    have blk : 0 < len → a.block < w.heap.size := fun h0 => by
      obtain ⟨cs', h1, h2⟩ := hel 0 (by omega)
      have h3 := (World.cells?_some h1).2.2 0 hp
      have hl' := (World.cells?_some h1).2.1
      rw [List.getElem?_eq_getElem (by omega)] at h3
      have := block_lt h3
      simpa [Addr.add] using this
    subst hl
    refine ⟨some a, l, _, rfl, ⟨css, he, ⟨?_, ?_⟩, ?_⟩, hg⟩
    · rw [flatten_length (n := L.size) he.lens, he.1]
    · rcases Nat.eq_zero_or_pos l.length with h0 | h0
      · exact .inl ⟨h0, _, _, by rw [h0]⟩
      · refine .inr ⟨h0, a.block, a.off, _, ?_, hlc, hcm, blk h0, fun j u hu => ?_⟩
        · have := hsp h0
          cases a; simp at this; subst this; rfl
        · have hj := (List.getElem?_eq_some_iff.1 hu).1
          rw [flatten_length (n := L.size) he.lens] at hj
          have hi : j / L.size < css.length := Nat.div_lt_of_lt_mul (by rw [Nat.mul_comm]; exact hj)
          have hr : j % L.size < L.size := Nat.mod_lt _ hp
          have e1 : j / L.size * L.size + j % L.size = j := by rw [Nat.mul_comm]; exact Nat.div_add_mod j L.size
          have hg2 := flatten_get (n := L.size) he.lens (i := j / L.size) (j := j % L.size) (List.getElem?_eq_getElem hi) hr
          rw [e1, hu] at hg2
          have := cell _ _ u _ (List.getElem?_eq_getElem hi) hg2.symm hr
          rw [Nat.add_assoc, e1] at this
          exact this
    · intro h0 b hb
      simp [mem_ownB, Value.ownBlock] at hb
      subst hb
      exact blk (by omega)

/-- A LIST that comes in. -/
theorem open_listW_arg {α : Type} (L : Lay α) {et st : TypeId} (good : α → Prop) (ht : Tryz.prog.underlying st = some (.slice et)) (hcell : Tryz.prog.cellsOf et = L.size) {w : World}
    (hone : ∀ (fuel : Nat) (cs : List Value) (x : DataW H × List MemPlace), DataW.trod enc Tryz.prog w 0 (fun _ => true) true fuel et cs = some x → cs.length = L.size → (∀ q ∈ x.1.weights Tryz.prog et, q ≤ reachBytes) → ∃ e, L.at_ w (fun b => b < w.heap.size) cs e ∧ good e)
    {a : Option Addr} {len cap : Nat} {d : DataW H} {ps : List MemPlace} (h : DataW.Trod enc Tryz.prog w 0 (fun _ => true) true st (.slice a len cap) d ps) (hw : ∀ q ∈ d.weights Tryz.prog st, q ≤ reachBytes) :
    ∃ l : List α, l.length = len ∧ ListAt L w (fun b => b < w.heap.size) (.slice a l.length cap) l ∧ ∀ e ∈ l, good e := by
  obtain ⟨fuel, h⟩ := h
  obtain ⟨a', l, c', e, hl, hg⟩ := open_listW L good ht hcell hone h hw
  simp [Value.cells] at e
  obtain ⟨rfl, rfl, rfl⟩ := e
  exact ⟨l, rfl, hl, hg⟩

set_option maxRecDepth 100000 in
theorem open_entW (w : World) (fuel : Nat) (cs : List Value) (x : DataW H × List MemPlace) (h : DataW.trod enc Tryz.prog w 0 (fun _ => true) true fuel 118 cs = some x) (_hl : cs.length = 3) (hw : ∀ q ∈ x.1.weights Tryz.prog 118, q ≤ reachBytes) : ∃ e, entL.at_ w (fun b => b < w.heap.size) cs e ∧ EntZ e := by
  obtain ⟨xs, n, rfl, rfl, hl, hxs, hf⟩ := DataW.trod_struct Tryz.underlying118 h
  have e3 : Tryz.prog.cellsOf 118 = 3 := by kernel_rfl
  have eI : Tryz.prog.cellsOf 3 = 1 := by kernel_rfl
  have eO : Tryz.prog.cellsOf 4 = 1 := by kernel_rfl
  have eB : Tryz.prog.cellsOf 28 = 1 := by kernel_rfl
  rw [e3] at hl
  have hx : ∀ i, i < 3 → ∃ y, xs[i]? = some y := fun i hi => ⟨xs[i]'(by rw [hxs]; exact hi), List.getElem?_eq_getElem _⟩
  match cs, hl with
  | [v0, v1, v2], _ =>
    obtain ⟨y0, g0⟩ := hx 0 (by omega)
    obtain ⟨y1, g1⟩ := hx 1 (by omega)
    obtain ⟨y2, g2⟩ := hx 2 (by omega)
    have f0 : DataW.trod enc Tryz.prog w 0 (fun _ => true) true n 3 [v0] = some y0 := by simpa [eI, g0] using hf 0 ⟨ "Term", 3, 0, false, "", "", 0⟩ rfl
    have f1 : DataW.trod enc Tryz.prog w 0 (fun _ => true) true n 4 [v1] = some y1 := by simpa [eO, g1] using hf 1 ⟨ "Cmd", 4, 1, false, "", "", 8⟩ rfl
    have f2 : DataW.trod enc Tryz.prog w 0 (fun _ => true) true n 28 [v2] = some y2 := by simpa [eB, g2] using hf 2 ⟨ "Data", 28, 2, false, "", "", 16⟩ rfl
    obtain ⟨n0, r0, w0⟩ := open_num Tryz.underlying3 f0
    obtain ⟨b1, r1, _⟩ := DataW.trod_bool Tryz.underlying4 f1
    obtain ⟨v, bs, r2, hb, hz⟩ := open_bytesAtW f2 (fun q hq => hw q (weights_part Tryz.underlying118 (i := 2) (ti := 28) rfl (by simp [g2]) hq))
    simp at r0 r1 r2
    subst r0 r1 r2
    exact ⟨⟨n0, b1, bs⟩, ⟨_, rfl, hb⟩, w0, hz⟩

set_option maxRecDepth 100000 in
theorem open_msgW (w : World) (fuel : Nat) (cs : List Value) (x : DataW H × List MemPlace) (h : DataW.trod enc Tryz.prog w 0 (fun _ => true) true fuel 57 cs = some x) (_hl : cs.length = 10) (hw : ∀ q ∈ x.1.weights Tryz.prog 57, q ≤ reachBytes) : ∃ m, msgL.at_ w (fun b => b < w.heap.size) cs m ∧ MsgZ m := by
  obtain ⟨xs, n, rfl, rfl, hl, hxs, hf⟩ := DataW.trod_struct Tryz.underlying57 h
  have e10 : Tryz.prog.cellsOf 57 = 10 := by kernel_rfl
  have eI : Tryz.prog.cellsOf 3 = 1 := by kernel_rfl
  have eO : Tryz.prog.cellsOf 4 = 1 := by kernel_rfl
  have eE : Tryz.prog.cellsOf 55 = 1 := by kernel_rfl
  have eB : Tryz.prog.cellsOf 28 = 1 := by kernel_rfl
  rw [e10] at hl
  have hx : ∀ i, i < 10 → ∃ y, xs[i]? = some y := fun i hi => ⟨xs[i]'(by rw [hxs]; exact hi), List.getElem?_eq_getElem _⟩
  match cs, hl with
  | [v0, v1, v2, v3, v4, v5, v6, v7, v8, v9], _ =>
    obtain ⟨y0, g0⟩ := hx 0 (by omega)
    obtain ⟨y1, g1⟩ := hx 1 (by omega)
    obtain ⟨y2, g2⟩ := hx 2 (by omega)
    obtain ⟨y3, g3⟩ := hx 3 (by omega)
    obtain ⟨y4, g4⟩ := hx 4 (by omega)
    obtain ⟨y5, g5⟩ := hx 5 (by omega)
    obtain ⟨y6, g6⟩ := hx 6 (by omega)
    obtain ⟨y7, g7⟩ := hx 7 (by omega)
    obtain ⟨y8, g8⟩ := hx 8 (by omega)
    obtain ⟨y9, g9⟩ := hx 9 (by omega)
    have f0 : DataW.trod enc Tryz.prog w 0 (fun _ => true) true n 3 [v0] = some y0 := by simpa [eI, g0] using hf 0 ⟨ "Kind", 3, 0, false, "", "", 0⟩ rfl
    have f1 : DataW.trod enc Tryz.prog w 0 (fun _ => true) true n 3 [v1] = some y1 := by simpa [eI, g1] using hf 1 ⟨ "From", 3, 1, false, "", "", 8⟩ rfl
    have f2 : DataW.trod enc Tryz.prog w 0 (fun _ => true) true n 3 [v2] = some y2 := by simpa [eI, g2] using hf 2 ⟨ "To", 3, 2, false, "", "", 16⟩ rfl
    have f3 : DataW.trod enc Tryz.prog w 0 (fun _ => true) true n 3 [v3] = some y3 := by simpa [eI, g3] using hf 3 ⟨ "Term", 3, 3, false, "", "", 24⟩ rfl
    have f4 : DataW.trod enc Tryz.prog w 0 (fun _ => true) true n 3 [v4] = some y4 := by simpa [eI, g4] using hf 4 ⟨ "A", 3, 4, false, "", "", 32⟩ rfl
    have f5 : DataW.trod enc Tryz.prog w 0 (fun _ => true) true n 3 [v5] = some y5 := by simpa [eI, g5] using hf 5 ⟨ "B", 3, 5, false, "", "", 40⟩ rfl
    have f6 : DataW.trod enc Tryz.prog w 0 (fun _ => true) true n 3 [v6] = some y6 := by simpa [eI, g6] using hf 6 ⟨ "C", 3, 6, false, "", "", 48⟩ rfl
    have f7 : DataW.trod enc Tryz.prog w 0 (fun _ => true) true n 4 [v7] = some y7 := by simpa [eO, g7] using hf 7 ⟨ "Ok", 4, 7, false, "", "", 56⟩ rfl
    have f8 : DataW.trod enc Tryz.prog w 0 (fun _ => true) true n 55 [v8] = some y8 := by simpa [eE, g8] using hf 8 ⟨ "Entries", 55, 8, false, "", "", 64⟩ rfl
    have f9 : DataW.trod enc Tryz.prog w 0 (fun _ => true) true n 28 [v9] = some y9 := by simpa [eB, g9] using hf 9 ⟨ "Data", 28, 9, false, "", "", 88⟩ rfl
    obtain ⟨n0, r0, w0⟩ := open_num Tryz.underlying3 f0
    obtain ⟨n1, r1, w1⟩ := open_num Tryz.underlying3 f1
    obtain ⟨n2, r2, w2⟩ := open_num Tryz.underlying3 f2
    obtain ⟨n3, r3, w3⟩ := open_num Tryz.underlying3 f3
    obtain ⟨n4, r4, w4⟩ := open_num Tryz.underlying3 f4
    obtain ⟨n5, r5, w5⟩ := open_num Tryz.underlying3 f5
    obtain ⟨n6, r6, w6⟩ := open_num Tryz.underlying3 f6
    obtain ⟨b7, r7, _⟩ := DataW.trod_bool Tryz.underlying4 f7
    obtain ⟨a8, l8, c8, r8, h8, g8'⟩ := open_listW entL EntZ Tryz.underlying55 (by kernel_rfl) (fun fu cs x h hl hw => open_entW w fu cs x h hl hw) f8 (fun q hq => hw q (weights_part Tryz.underlying57 (i := 8) (ti := 55) rfl (by simp [g8]) hq))
    obtain ⟨v, bs, r9, hb⟩ := open_bytesAt f9
    simp at r0 r1 r2 r3 r4 r5 r6 r7 r8 r9
    subst r0 r1 r2 r3 r4 r5 r6 r7 r8 r9
    exact ⟨⟨n0, n1, n2, n3, n4, n5, n6, b7, l8, bs⟩, ⟨_, _, rfl, h8, hb⟩, ⟨w0, w1, w2, w3, w4, w5, w6, fun e he => (g8' e he).1⟩, fun e he => (g8' e he).2⟩
end

end Go.Proofs.YtbbdmmhpbeleoaaGreatDoor

/- Msg: a message in new memory, whatever length its entries have. Printed by gen_wide.py. -/
namespace Go.Proofs.YtbbdmmhpbeleoaaGreatDoor
open Go Go.RowKit

set_option maxRecDepth 100000 in
set_option maxHeartbeats 1600000 in
theorem lEntriesW_any (w : World) (l : List Ent) (a0 : Option Addr) (c0 : Nat) (P : Nat → Prop) (hl : ListAt entL w P (.slice a0 l.length c0) l) (hd : ∀ e ∈ l, e.data.length ≤ 140737488351232) (hn : l.length ≤ 100000) :
    Calls Tryz.prog 67 #[.slice a0 l.length c0] w (FromPost l w) := by
  obtain ⟨it, hi0, hz0, hz1, hz2⟩ := info_parts Tryz.infoEnt
  have HLA := hid hl
  have HD := hid hd
  have HZ : Hid (∀ k, k < l.length → ∃ e, l[k]? = some e) := fun k hk => ⟨l[k], List.getElem?_eq_getElem hk⟩
  clear hl hd
  go_enter Tryz.func67, Tryz.ntmps67
  go_wp2_with fail
  go_loopw [3, 4] (fun v i wr => ∃ (k : Nat) (a : Option Addr) (q : Nat), k ≤ l.length ∧ v = .slice a k q ∧ i = .int .i64 k ∧ Hid (FreshEnts w wr (.slice a k q) (l.take k) ∧ Keeps [] w wr)) (fun _ i _ => l.length - (intOf i).toNat)
  case atStart => exact ⟨0, none, 0, Nat.zero_le _, rfl, rfl, OwnAt.nil _ _ _ _, Keeps.refl [] w⟩
  case round =>
    obtain ⟨k, a, q, hk, rfl, rfl, HW⟩ := hrel
    have i0 : (0 : Int) ≤ (k : Int) := Int.natCast_nonneg _
    by_cases hlt : k < l.length
    · have i1 : (k : Int) < (l.length : Int) := by omega
      obtain ⟨e, he⟩ := HZ.out k hlt
      obtain ⟨g, off, cg, ha, hcg, hcm, hgl, hgP⟩ := (HLA.out.k HW.out.2).addr (fun hn => by rw [hn] at hlt; simp at hlt)
      simp at ha
      obtain ⟨ha, hcc⟩ := ha
      subst ha
      subst hcc
      obtain ⟨cs, ⟨v, rfl, hbv⟩, hcs⟩ := (HLA.out.k HW.out.2).get he
      have y0 : wr.cell? ⟨g, off + k * 3, none⟩ = some (.int .i64 e.term) := hcs 0 _ rfl
      have y1 : wr.cell? ⟨g, off + k * 3 + 1, none⟩ = some (.bool e.cmd) := hcs 1 _ rfl
      have y2 : wr.cell? ⟨g, off + k * 3 + 2, none⟩ = some v := hcs 2 _ rfl
      obtain ⟨va, vc, rfl⟩ := hbv.form
      have XR := hid hbv.1
      have HDL : e.data.length ≤ 140737488351232 := HD.out e (List.mem_of_getElem? he)
      have HT : Hid (l.take (k + 1) = l.take k ++ [e]) := by show _ = _; rw [List.take_add_one, he]; rfl
      have HTL : Hid ((l.take k).length = k) := by show _ = _; simp; omega
      clear hcs hbv he hcm hcg
      go_wp2_with fail
      refine (lawBytes_any _ e.data _ (XR.out.keeps ((Keeps.refl [] wr).alloc _) (fun _ _ h => by cases h)) (by omega)).mono ?_
      rintro z w3 ⟨a3, q3, rfl, ho, hk3⟩
      obtain ⟨⟨b0, b1, b2⟩, f3⟩ := blk3 ((hk3.block wr.heap.size (by simp) (by simp)).trans (heap_alloc_new wr _))
      have K3 : Hid (Keeps [] wr w3) := ((Keeps.refl [] wr).alloc _).trans hk3 (fun _ _ h => h)
      have hz : wr.heap.size < w3.heap.size := World.block_lt_of_cell? _ _ b0
      have HOW : Hid (OwnAt entL 118 w3 w.heap.size (fun b => w.heap.size ≤ b ∧ b ∉ ownB (.slice a k q)) (.slice a k q) (l.take k)) := OwnAt.k HW.out.1 K3.out
      have HBB : Hid (∀ b, wr.heap.size ≤ b → w.heap.size ≤ b ∧ b ∉ ownB (.slice a k q)) := fun b hb => ⟨Nat.le_trans HW.out.2.size hb, fun hb' => by have := (OwnAt.ge HW.out.1 b hb').2; omega⟩
      have HEL : Hid (∀ wx, Keeps [wr.heap.size] w3 wx → entL.at_ wx (fun b => wr.heap.size < b) [.int .i64 e.term, .bool e.cmd, .slice a3 e.data.length q3] e) := fun wx kx => ⟨_, rfl, BytesAt.keep (P := fun b => wr.heap.size < b) (BytesAt.ofOwn ho rfl (fun b hb _ => by simp at hb; omega)) kx (fun b hb hb' => by simp at hb'; omega)⟩
      have HZ3 : Hid (w.heap.size ≤ w3.heap.size) := Nat.le_trans HW.out.2.size K3.out.size
      have HO4 : Hid (∀ wx, Keeps [wr.heap.size] w3 wx → OwnAt entL 118 wx w.heap.size (fun b => w.heap.size ≤ b ∧ b ∉ ownB (.slice a k q)) (.slice a k q) (l.take k)) := fun wx kx =>
        (((OwnAt.mono (P' := fun b => (w.heap.size ≤ b ∧ b ∉ ownB (.slice a k q)) ∧ b < wr.heap.size) HW.out.1 (fun b h1 h2 => ⟨h2, h1⟩)).k K3.out).keep kx (fun b hb hb' => by have := (OwnAt.ge HW.out.1 b hb).2; simp at hb'; omega) (fun b hb hb' => by simp at hb'; omega)).mono (fun b _ h => h.1)
      have HK4 : Hid (∀ wx, Keeps [wr.heap.size] w3 wx → Keeps [] w wx) := fun wx kx => (HW.out.2.trans K3.out (fun _ _ h => h)).trans kx (fun b hb hb' => by simp at hb'; have := HW.out.2.size; omega)
      have HOWB : Hid (∀ b, b ∈ ownB (.slice a k q) → w.heap.size ≤ b) := fun b hb => (OwnAt.ge HW.out.1 b hb).1
      have HRW : Hid (((w3.setCell ⟨wr.heap.size, 2, none⟩ (.slice a3 e.data.length q3)).alloc (.cells #[.int .i64 e.term, .bool e.cmd, .slice a3 e.data.length q3] 118)).heap[w3.heap.size]? = some (.cells #[.int .i64 e.term, .bool e.cmd, .slice a3 e.data.length q3] 118 (0, 0))) := by
        have := heap_alloc_new (w3.setCell ⟨wr.heap.size, 2, none⟩ (.slice a3 e.data.length q3)) (.cells #[.int .i64 e.term, .bool e.cmd, .slice a3 e.data.length q3] 118)
        rw [show (w3.setCell ⟨wr.heap.size, 2, none⟩ (.slice a3 e.data.length q3)).heap.size = w3.heap.size by simp] at this
        exact this
      clear ho hk3
      go_wp2_with (at_builtin; go_must (refine wpList_append_off (L := entL) (PB := fun b => wr.heap.size < b) _ (by rfl) _ _ _ (by rfl) w.heap.size 118 it _ 40 Tryz.underlying55 hi0 hz0 hz1 hz2 rfl (R := fun b => w.heap.size ≤ b) (.slice a k q) (by rfl) (l.take k) [e] k HTL.out [[.int .i64 e.term, .bool e.cmd, .slice a3 e.data.length q3]] (HO4.out _ (((Keeps.refl _ _).setCell (.inl (by simp)) _).alloc _)) (.slice (some ⟨w3.heap.size, 0, none⟩) 1 1) (by rfl) 1 rfl (ElemsAt.one1 (HEL.out _ (((Keeps.refl _ _).setCell (.inl (by simp)) _).alloc _))) (Reads.one1 HRW.out rfl) (by omega) (le_maxLen (by omega)) (by exact Nat.le_trans HZ3.out (Keeps.size (F := [wr.heap.size]) (((Keeps.refl _ _).setCell (.inl (by simp)) _).alloc _))) (fun b _ hb => HBB.out b (Nat.le_of_lt hb)) ?_; intro a4 q4 w4 ho4 hk4 hv4))
      go_roundw
      case rel =>
        refine ⟨k + 1, a4, q4, by omega, rfl, by go_num, ?_, ?_⟩
        · rw [HT.out]
          exact ho4.out
        · exact (HK4.out _ (((Keeps.refl _ _).setCell (.inl (by simp)) _).alloc _)).trans hk4.out (fun b hb hb' => by have := HOWB.out b hb'; omega)
      case measure => simp [intOf]; omega
    · have hkn : k = l.length := by omega
      have hge : (l.length : Int) ≤ (k : Int) := by omega
      have HKN := hid hkn
      clear hkn
      go_wp2_with fail
      go_ret
      have h1 := HW.out
      rw [HKN.out, List.take_of_length_le (Nat.le_refl _)] at h1
      exact ⟨a, q, by rw [HKN.out]; rfl, h1⟩

set_option maxRecDepth 100000 in
set_option maxHeartbeats 3200000 in
theorem lMsgW_any (w : World) (m : MsgD) (ea da : Option Addr) (ec dc : Nat) (P : Nat → Prop) (hl : ListAt entL w P (.slice ea m.entries.length ec) m.entries) (hd : BytesAt w P (.slice da m.data.length dc) m.data) (hn : m.entries.length ≤ 100000) (h1 : ∀ e ∈ m.entries, e.data.length ≤ 140737488351232) (h2 : m.data.length ≤ 1000000) :
    Calls Tryz.prog 34 #[msgV m (.slice ea m.entries.length ec) (.slice da m.data.length dc)] w (SendPost m w) := by
  have HL := hid hl
  have HD := hid hd
  have H1 := hid h1
  clear hl hd h1
  unfold msgV
  go_enter Tryz.func34, Tryz.ntmps34
  go_wp2_with fail
  refine (lEntriesW_any _ m.entries ea ec P (HL.out.k (by exact Keeps.K)) H1.out hn).mono ?_
  rintro e w3 ⟨a3, q3, rfl, f3, k3⟩
  have HB1 := (k3.block w.heap.size (by simp; omega) (by simp)).trans ((((Keeps.refl [] _).alloc _).block w.heap.size (by simp) (by simp)).trans (heap_alloc_new w (.cells #[.int .i64 m.kind, .int .i64 m.frm, .int .i64 m.to, .int .i64 m.term, .int .i64 m.a, .int .i64 m.b, .int .i64 m.c, .bool m.ok, .slice ea m.entries.length ec, .slice da m.data.length dc] 57)))
  have HB2 : w3.heap[w.heap.size + 1]? = some (.cells #[.int .i64 0, .int .i64 0, .int .i64 0, .int .i64 0, .int .i64 0, .int .i64 0, .int .i64 0, .bool false, .slice none 0 0, .slice none 0 0] 57 (0, 0)) := by
    have h2 := heap_alloc_new (w.alloc (.cells #[.int .i64 m.kind, .int .i64 m.frm, .int .i64 m.to, .int .i64 m.term, .int .i64 m.a, .int .i64 m.b, .int .i64 m.c, .bool m.ok, .slice ea m.entries.length ec, .slice da m.data.length dc] 57)) (.cells #[.int .i64 0, .int .i64 0, .int .i64 0, .int .i64 0, .int .i64 0, .int .i64 0, .int .i64 0, .bool false, .slice none 0 0, .slice none 0 0] 57)
    rw [show (w.alloc (.cells #[.int .i64 m.kind, .int .i64 m.frm, .int .i64 m.to, .int .i64 m.term, .int .i64 m.a, .int .i64 m.b, .int .i64 m.c, .bool m.ok, .slice ea m.entries.length ec, .slice da m.data.length dc] 57)).heap.size = w.heap.size + 1 by simp] at h2
    exact (k3.block (w.heap.size + 1) (by simp) (by simp)).trans h2
  have K3 : Hid (Keeps [] w w3) := Keeps.trans (by exact Keeps.K) k3 (fun _ _ h => h)
  have L3 : Hid (ListAt entL w3 (fun b => w.heap.size + 2 ≤ b) (.slice a3 m.entries.length q3) m.entries) := OwnAt.list f3 (fun b _ hb => by simpa using hb.1) (fun b hb => by have := (OwnAt.ge f3 b hb).1; simpa using this)
  have D3 : Hid (BytesAt w3 (fun b => b < w.heap.size) (.slice da m.data.length dc) m.data) := (HD.out.mono (P' := fun b => b < w.heap.size) (fun b h _ => h)).k K3.out
  obtain ⟨⟨c0, c1, c2, c3, c4, c5, c6, c7, c8, c9⟩, fz⟩ := blk10 HB1
  have hz3 : w.heap.size + 1 < w3.heap.size := (Array.getElem?_eq_some_iff.1 HB2).1
  have HBX := hid (heap_setCell_same w3 w.heap.size 8 _ _ (.slice a3 m.entries.length q3) HB1)
  have HBY := hid HB2
  have KS : Hid (∀ v, Keeps [w.heap.size] w3 (w3.setCell ⟨w.heap.size, 8, none⟩ v)) := fun v => (Keeps.refl _ _).setCell (.inl (by simp)) _
  clear f3 k3 HB1 HB2
  go_wp2_with fail
  refine (lawBytes_any _ m.data _ (D3.out.keep (KS.out _) (fun b hb hb' => by simp at hb'; omega)).1 (by omega)).mono ?_
  rintro e w4 ⟨a4, q4, rfl, o4, k4⟩
  have D4 : Hid (BytesAt w4 (fun b => w.heap.size + 2 ≤ b) (.slice a4 m.data.length q4) m.data) := BytesAt.ofOwn o4 rfl (fun b hb _ => by simp at hb; omega)
  have L4 : Hid (ListAt entL w4 (fun b => w.heap.size + 2 ≤ b) (.slice a3 m.entries.length q3) m.entries) := (L3.out.keep (KS.out _) (fun b hb hb' => by simp at hb'; omega)).k k4
  have K4 : Hid (Keeps [w.heap.size] w3 w4) := (KS.out _).trans k4 (fun _ _ h => by cases h)
  have HX4 := (k4.block w.heap.size (by simp; omega) (by simp)).trans HBX.out
  have HY4 := (K4.out.block (w.heap.size + 1) hz3 (by simp)).trans HBY.out
  simp only [List.setIfInBounds_toArray, List.set_cons_zero, List.set_cons_succ] at HX4
  obtain ⟨⟨d0, d1, d2, d3, d4, d5, d6, d7, d8, d9⟩, fx⟩ := blk10 HX4
  obtain ⟨⟨e0, e1, e2, e3, e4, e5, e6, e7, e8, e9⟩, fy⟩ := blk10 HY4
  have HYY := hid HY4
  have hz4 : w.heap.size + 1 < w4.heap.size := (Array.getElem?_eq_some_iff.1 HY4).1
  clear o4 k4 HX4 HY4 c0 c1 c2 c3 c4 c5 c6 c7 c8 c9 fz
  go_wp2_with fail
  have k1 : Keeps [w.heap.size] w4 (w4.setCell ⟨w.heap.size, 9, none⟩ (.slice a4 m.data.length q4)) := (Keeps.refl _ _).setCell (.inl (by simp)) _
  have HF := heap10 (y0 := .int .i64 m.kind) (y1 := .int .i64 m.frm) (y2 := .int .i64 m.«to») (y3 := .int .i64 m.term) (y4 := .int .i64 m.a) (y5 := .int .i64 m.b) (y6 := .int .i64 m.c) (y7 := .bool m.ok) (y8 := .slice a3 m.entries.length q3) (y9 := .slice a4 m.data.length q4) ((k1.block (w.heap.size + 1) hz4 (by simp)).trans HYY.out)
  have k5 : Keeps [w.heap.size, w.heap.size + 1] w4 (((((((((((w4.setCell ⟨w.heap.size, 9, none⟩ (.slice a4 m.data.length q4)).setCell ⟨w.heap.size + 1, 0, none⟩ (.int .i64 m.kind)).setCell ⟨w.heap.size + 1, 1, none⟩ (.int .i64 m.frm)).setCell ⟨w.heap.size + 1, 2, none⟩ (.int .i64 m.«to»)).setCell ⟨w.heap.size + 1, 3, none⟩ (.int .i64 m.term)).setCell ⟨w.heap.size + 1, 4, none⟩ (.int .i64 m.a)).setCell ⟨w.heap.size + 1, 5, none⟩ (.int .i64 m.b)).setCell ⟨w.heap.size + 1, 6, none⟩ (.int .i64 m.c)).setCell ⟨w.heap.size + 1, 7, none⟩ (.bool m.ok)).setCell ⟨w.heap.size + 1, 8, none⟩ (.slice a3 m.entries.length q3)).setCell ⟨w.heap.size + 1, 9, none⟩ (.slice a4 m.data.length q4)) := by exact Keeps.K
  refine bodyPost_ret (v := .agg #[.int .i64 m.kind, .int .i64 m.frm, .int .i64 m.«to», .int .i64 m.term, .int .i64 m.a, .int .i64 m.b, .int .i64 m.c, .bool m.ok, .slice a3 m.entries.length q3, .slice a4 m.data.length q4]) (results_cell_row rfl _ _ (w.heap.size + 1) 57 _ (0, 0) _ rfl HF Tryz.underlying57 rfl (by kernel_rfl)) rfl ⟨a3, q3, a4, q4, rfl, ?_, ?_, ?_⟩
  · exact (L4.out.keep k5 (fun b hb hb' => by simp at hb'; omega)).mono (fun b _ hb => by omega)
  · exact (D4.out.keep k5 (fun b hb hb' => by simp at hb'; omega)).mono (fun b _ hb => by omega)
  · exact (K3.out.trans K4.out (fun b hb hb' => by simp at hb'; omega)).trans k5 (fun b hb hb' => by simp at hb'; omega)

end Go.Proofs.YtbbdmmhpbeleoaaGreatDoor
