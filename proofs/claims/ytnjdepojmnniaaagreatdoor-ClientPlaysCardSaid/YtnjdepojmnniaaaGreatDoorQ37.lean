/- Joined of OpenL, Law, LawL, LawZ. -/
import Derived.Test.YtnjdepojmnniaaaGreatDoorQ30
import Derived.Test.YtnjdepojmnniaaaGreatDoorQ36
import Derived.Test.YtnjdepojmnniaaaGreatDoorRows
import Derived.Test.YtnjdepojmnniaaaGreatDoorQ00
import Derived.ProofKit
import Derived.Test.YtnjdepojmnniaaaGreatDoorTie
import Derived.Test.YtnjdepojmnniaaaGreatDoorCards
import Derived.Lib.LaidU8
import Derived.OpenShut
import Derived.LaidMore
import Derived.Lay
import Derived.SevenTiedAt
import Derived.Stop.Joined
import Derived.SizedLaws

set_option linter.unusedSimpArgs false
set_option linter.unusedVariables false

/- THE ARGUMENTS OF THE LAWS, OPENED: lists of entries, of messages, of numbers. -/
namespace Go.Proofs.YtnjdepojmnniaaaGreatDoor
open Go Go.RowKit Go.WideShapes Go.ChangeShapes Go.Deep

section
variable {H : Type} {enc : TypeId × Value → H}

theorem open_list {α : Type} (L : Lay α) {et st : TypeId} (good : α → Prop) (ht : Tryz.prog.underlying st = some (.slice et)) (hcell : Tryz.prog.cellsOf et = L.size) {w : World}
    (hone : ∀ (fuel : Nat) (cs : List Value) (x : DataW H × List MemPlace), DataW.trod enc Tryz.prog w 0 (fun _ => true) true fuel et cs = some x → cs.length = L.size → ∃ e, L.at_ w (fun b => b < w.heap.size) cs e ∧ good e)
    {fuel : Nat} {cs : List Value} {x : DataW H × List MemPlace} (h : DataW.trod enc Tryz.prog w 0 (fun _ => true) true fuel st cs = some x) :
    ∃ (a : Option Addr) (l : List α) (c : Nat), cs = [.slice a l.length c] ∧ ListAt L w (fun b => b < w.heap.size) (.slice a l.length c) l ∧ ∀ e ∈ l, good e := by
  rcases open_slice ht h with ⟨rfl, _⟩ | ⟨a, len, cap, m, n, D, Pl, rfl, _, hlc, hcm, hm, _, hel⟩
  · exact ⟨none, [], 0, rfl, ListAt.nil _ _ _ _, by simp⟩
  · simp only [if_true] at hm
    subst hm
    rw [hcell] at hel
    have hp := L.pos
    have hsp : 0 < len → a.spot = none := fun h0 => by
      obtain ⟨cs', h1, h2⟩ := hel 0 (by omega)
      have := (World.cells?_some h1).2.2 0 (by omega)
      have hl := (World.cells?_some h1).2.1
      rw [List.getElem?_eq_getElem (by omega)] at this
      simpa [Addr.add] using spot_of_cell this
    have key : ∀ k, k ≤ len → ∃ (css : List (List Value)) (l : List α), l.length = k ∧ ElemsAt L w (fun b => b < w.heap.size) css l ∧ (∀ (j : Nat) (c : List Value), css[j]? = some c → w.cells? 0 (a.add (j * L.size)) L.size = some c) ∧ ∀ e ∈ l, good e := by
      intro k
      induction k with
      | zero => exact fun _ => ⟨[], [], rfl, ElemsAt.nil _ _, by simp, by simp⟩
      | succ k ih =>
        intro hk
        obtain ⟨css, l, hl, he, hc, hg⟩ := ih (by omega)
        obtain ⟨cs', h1, h2⟩ := hel k (by omega)
        obtain ⟨e, e1, e2⟩ := hone _ _ _ h2 (World.cells?_some h1).2.1
        refine ⟨css ++ [cs'], l ++ [e], by simp [hl], he.snoc e1, fun j c hj => ?_, fun x hx => ?_⟩
        · rw [List.getElem?_append] at hj
          split at hj
          · exact hc j c hj
          · have h3 := he.1
            have h4 : j - css.length = 0 := by
              have := (List.getElem?_eq_some_iff.1 hj).1
              simp at this
              omega
            rw [h4] at hj
            simp at hj
            subst hj
            rw [show j = k by omega]
            exact h1
        · rcases List.mem_append.1 hx with hx | hx
          · exact hg x hx
          · simp at hx
            rw [hx]
            exact e2
    obtain ⟨css, l, hl, he, hc, hg⟩ := key len (Nat.le_refl _)
    have cell : ∀ (i r : Nat) (u : Value) (c : List Value), css[i]? = some c → c[r]? = some u → r < L.size → w.cell? ⟨a.block, a.off + i * L.size + r, none⟩ = some u := fun i r u c h1 h2 h3 => by
      have h4 := (World.cells?_some (hc i c h1)).2.2 r h3
      have hi : i < len := by have := (List.getElem?_eq_some_iff.1 h1).1; rw [he.1, hl] at this; exact this
      rw [addr_at (hsp (by omega)), addr_at rfl] at h4
      rw [← h2]
      exact h4
    have blk : 0 < len → a.block < w.heap.size := fun h0 => by
      obtain ⟨cs', h1, h2⟩ := hel 0 (by omega)
      have h3 := (World.cells?_some h1).2.2 0 hp
      have hl' := (World.cells?_some h1).2.1
      rw [List.getElem?_eq_getElem (by omega)] at h3
      have := block_lt h3
      simpa [Addr.add] using this
    subst hl
    refine ⟨some a, l, _, rfl, ⟨css, he, ⟨?_, ?_⟩, ?_⟩, hg⟩
    · rw [flatten_length (n := L.size) he.lens, he.1]
    · rcases Nat.eq_zero_or_pos l.length with h0 | h0
      · exact .inl ⟨h0, _, _, by rw [h0]⟩
      · refine .inr ⟨h0, a.block, a.off, _, ?_, hlc, hcm, blk h0, fun j u hu => ?_⟩
        · have := hsp h0
          cases a; simp at this; subst this; rfl
        · have hj := (List.getElem?_eq_some_iff.1 hu).1
          rw [flatten_length (n := L.size) he.lens] at hj
          have hi : j / L.size < css.length := Nat.div_lt_of_lt_mul (by rw [Nat.mul_comm]; exact hj)
          have hr : j % L.size < L.size := Nat.mod_lt _ hp
          have e1 : j / L.size * L.size + j % L.size = j := by rw [Nat.mul_comm]; exact Nat.div_add_mod j L.size
          have hg2 := flatten_get (n := L.size) he.lens (i := j / L.size) (j := j % L.size) (List.getElem?_eq_getElem hi) hr
          rw [e1, hu] at hg2
          have := cell _ _ u _ (List.getElem?_eq_getElem hi) hg2.symm hr
          rw [Nat.add_assoc, e1] at this
          exact this
    · intro h0 b hb
      simp [mem_ownB, Value.ownBlock] at hb
      subst hb
      exact blk (by omega)

/-- A LIST that comes in. -/
theorem open_list_arg {α : Type} (L : Lay α) {et st : TypeId} (good : α → Prop) (ht : Tryz.prog.underlying st = some (.slice et)) (hcell : Tryz.prog.cellsOf et = L.size) {w : World}
    (hone : ∀ (fuel : Nat) (cs : List Value) (x : DataW H × List MemPlace), DataW.trod enc Tryz.prog w 0 (fun _ => true) true fuel et cs = some x → cs.length = L.size → ∃ e, L.at_ w (fun b => b < w.heap.size) cs e ∧ good e)
    {a : Option Addr} {len cap : Nat} {d : DataW H} {ps : List MemPlace} (h : DataW.Trod enc Tryz.prog w 0 (fun _ => true) true st (.slice a len cap) d ps) :
    ∃ l : List α, l.length = len ∧ ListAt L w (fun b => b < w.heap.size) (.slice a l.length cap) l ∧ ∀ e ∈ l, good e := by
  obtain ⟨fuel, h⟩ := h
  obtain ⟨a', l, c', e, hl, hg⟩ := open_list L good ht hcell hone h
  simp [Value.cells] at e
  obtain ⟨rfl, rfl, rfl⟩ := e
  exact ⟨l, rfl, hl, hg⟩

theorem open_bytesAt {w : World} {fuel : Nat} {cs : List Value} {x : DataW H × List MemPlace} (h : DataW.trod enc Tryz.prog w 0 (fun _ => true) true fuel 36 cs = some x) : ∃ v bs, cs = [v] ∧ BytesAt w (fun b => b < w.heap.size) v bs := by
  obtain ⟨a, c, bs, rfl, h1, h2⟩ := open_bytes h
  exact ⟨_, bs, rfl, h1, fun hn b hb => h2 b hb hn⟩

def IntW (n : Int) : Prop := (Lit.int .i64 n).wf = true
def EntW (e : Ent) : Prop := IntW e.term
structure MsgW (m : MsgD) : Prop where
  kind : IntW m.kind
  frm : IntW m.frm
  «to» : IntW m.«to»
  term : IntW m.term
  a : IntW m.a
  b : IntW m.b
  c : IntW m.c
  ents : ∀ e ∈ m.entries, EntW e

/-- A number in one cell. -/
def numL : Lay Int where
  size := 1
  pos := by decide
  at_ _ _ cs z := cs = [.int .i64 z]
  len := fun e => by rw [e]; rfl
  one := fun e u hu => by
    rw [e] at hu
    simp at hu
    rw [hu]; rfl
  keep := fun e _ _ => e
  mono := fun e _ => e

theorem open_int1 (w : World) (fuel : Nat) (cs : List Value) (x : DataW H × List MemPlace) (h : DataW.trod enc Tryz.prog w 0 (fun _ => true) true fuel 3 cs = some x) (_hl : cs.length = 1) : ∃ e, numL.at_ w (fun b => b < w.heap.size) cs e ∧ IntW e := by
  obtain ⟨n, r, h2⟩ := open_num Tryz.underlying3 h
  exact ⟨n, r, h2⟩

set_option maxRecDepth 100000 in
theorem open_ent (w : World) (fuel : Nat) (cs : List Value) (x : DataW H × List MemPlace) (h : DataW.trod enc Tryz.prog w 0 (fun _ => true) true fuel 109 cs = some x) (_hl : cs.length = 3) : ∃ e, entL.at_ w (fun b => b < w.heap.size) cs e ∧ EntW e := by
  obtain ⟨xs, n, rfl, _, hl, hxs, hf⟩ := DataW.trod_struct Tryz.underlying109 h
  have e3 : Tryz.prog.cellsOf 109 = 3 := by kernel_rfl
  have eI : Tryz.prog.cellsOf 3 = 1 := by kernel_rfl
  have eO : Tryz.prog.cellsOf 4 = 1 := by kernel_rfl
  have eB : Tryz.prog.cellsOf 36 = 1 := by kernel_rfl
  rw [e3] at hl
  have hx : ∀ i, i < 3 → ∃ y, xs[i]? = some y := fun i hi => ⟨xs[i]'(by rw [hxs]; exact hi), List.getElem?_eq_getElem _⟩
  match cs, hl with
  | [v0, v1, v2], _ =>
    obtain ⟨y0, g0⟩ := hx 0 (by omega)
    obtain ⟨y1, g1⟩ := hx 1 (by omega)
    obtain ⟨y2, g2⟩ := hx 2 (by omega)
    have f0 : DataW.trod enc Tryz.prog w 0 (fun _ => true) true n 3 [v0] = some y0 := by simpa [eI, g0] using hf 0 ⟨ "Term", 3, 0, false, "", "", 0⟩ rfl
    have f1 : DataW.trod enc Tryz.prog w 0 (fun _ => true) true n 4 [v1] = some y1 := by simpa [eO, g1] using hf 1 ⟨ "Cmd", 4, 1, false, "", "", 8⟩ rfl
    have f2 : DataW.trod enc Tryz.prog w 0 (fun _ => true) true n 36 [v2] = some y2 := by simpa [eB, g2] using hf 2 ⟨ "Data", 36, 2, false, "", "", 16⟩ rfl
    obtain ⟨n0, r0, w0⟩ := open_num Tryz.underlying3 f0
    obtain ⟨b1, r1, _⟩ := DataW.trod_bool Tryz.underlying4 f1
    obtain ⟨v, bs, r2, hb⟩ := open_bytesAt f2
    simp at r0 r1 r2
    subst r0 r1 r2
    exact ⟨⟨n0, b1, bs⟩, ⟨_, rfl, hb⟩, w0⟩

set_option maxRecDepth 100000 in
theorem open_msg (w : World) (fuel : Nat) (cs : List Value) (x : DataW H × List MemPlace) (h : DataW.trod enc Tryz.prog w 0 (fun _ => true) true fuel 38 cs = some x) (_hl : cs.length = 10) : ∃ m, msgL.at_ w (fun b => b < w.heap.size) cs m ∧ MsgW m := by
  obtain ⟨xs, n, rfl, _, hl, hxs, hf⟩ := DataW.trod_struct Tryz.underlying38 h
  have e10 : Tryz.prog.cellsOf 38 = 10 := by kernel_rfl
  have eI : Tryz.prog.cellsOf 3 = 1 := by kernel_rfl
  have eO : Tryz.prog.cellsOf 4 = 1 := by kernel_rfl
  have eE : Tryz.prog.cellsOf 35 = 1 := by kernel_rfl
  have eB : Tryz.prog.cellsOf 36 = 1 := by kernel_rfl
  rw [e10] at hl
  have hx : ∀ i, i < 10 → ∃ y, xs[i]? = some y := fun i hi => ⟨xs[i]'(by rw [hxs]; exact hi), List.getElem?_eq_getElem _⟩
  match cs, hl with
  | [v0, v1, v2, v3, v4, v5, v6, v7, v8, v9], _ =>
    obtain ⟨y0, g0⟩ := hx 0 (by omega)
    obtain ⟨y1, g1⟩ := hx 1 (by omega)
    obtain ⟨y2, g2⟩ := hx 2 (by omega)
    obtain ⟨y3, g3⟩ := hx 3 (by omega)
    obtain ⟨y4, g4⟩ := hx 4 (by omega)
    obtain ⟨y5, g5⟩ := hx 5 (by omega)
    obtain ⟨y6, g6⟩ := hx 6 (by omega)
    obtain ⟨y7, g7⟩ := hx 7 (by omega)
    obtain ⟨y8, g8⟩ := hx 8 (by omega)
    obtain ⟨y9, g9⟩ := hx 9 (by omega)
    have f0 : DataW.trod enc Tryz.prog w 0 (fun _ => true) true n 3 [v0] = some y0 := by simpa [eI, g0] using hf 0 ⟨ "Kind", 3, 0, false, "", "", 0⟩ rfl
    have f1 : DataW.trod enc Tryz.prog w 0 (fun _ => true) true n 3 [v1] = some y1 := by simpa [eI, g1] using hf 1 ⟨ "From", 3, 1, false, "", "", 8⟩ rfl
    have f2 : DataW.trod enc Tryz.prog w 0 (fun _ => true) true n 3 [v2] = some y2 := by simpa [eI, g2] using hf 2 ⟨ "To", 3, 2, false, "", "", 16⟩ rfl
    have f3 : DataW.trod enc Tryz.prog w 0 (fun _ => true) true n 3 [v3] = some y3 := by simpa [eI, g3] using hf 3 ⟨ "Term", 3, 3, false, "", "", 24⟩ rfl
    have f4 : DataW.trod enc Tryz.prog w 0 (fun _ => true) true n 3 [v4] = some y4 := by simpa [eI, g4] using hf 4 ⟨ "A", 3, 4, false, "", "", 32⟩ rfl
    have f5 : DataW.trod enc Tryz.prog w 0 (fun _ => true) true n 3 [v5] = some y5 := by simpa [eI, g5] using hf 5 ⟨ "B", 3, 5, false, "", "", 40⟩ rfl
    have f6 : DataW.trod enc Tryz.prog w 0 (fun _ => true) true n 3 [v6] = some y6 := by simpa [eI, g6] using hf 6 ⟨ "C", 3, 6, false, "", "", 48⟩ rfl
    have f7 : DataW.trod enc Tryz.prog w 0 (fun _ => true) true n 4 [v7] = some y7 := by simpa [eO, g7] using hf 7 ⟨ "Ok", 4, 7, false, "", "", 56⟩ rfl
    have f8 : DataW.trod enc Tryz.prog w 0 (fun _ => true) true n 35 [v8] = some y8 := by simpa [eE, g8] using hf 8 ⟨ "Entries", 35, 8, false, "", "", 64⟩ rfl
    have f9 : DataW.trod enc Tryz.prog w 0 (fun _ => true) true n 36 [v9] = some y9 := by simpa [eB, g9] using hf 9 ⟨ "Data", 36, 9, false, "", "", 88⟩ rfl
    obtain ⟨n0, r0, w0⟩ := open_num Tryz.underlying3 f0
    obtain ⟨n1, r1, w1⟩ := open_num Tryz.underlying3 f1
    obtain ⟨n2, r2, w2⟩ := open_num Tryz.underlying3 f2
    obtain ⟨n3, r3, w3⟩ := open_num Tryz.underlying3 f3
    obtain ⟨n4, r4, w4⟩ := open_num Tryz.underlying3 f4
    obtain ⟨n5, r5, w5⟩ := open_num Tryz.underlying3 f5
    obtain ⟨n6, r6, w6⟩ := open_num Tryz.underlying3 f6
    obtain ⟨b7, r7, _⟩ := DataW.trod_bool Tryz.underlying4 f7
    obtain ⟨a8, l8, c8, r8, h8, g8'⟩ := open_list entL EntW Tryz.underlying35 (by kernel_rfl) (fun fu cs x h hl => open_ent w fu cs x h hl) f8
    obtain ⟨v, bs, r9, hb⟩ := open_bytesAt f9
    simp at r0 r1 r2 r3 r4 r5 r6 r7 r8 r9
    subst r0 r1 r2 r3 r4 r5 r6 r7 r8 r9
    exact ⟨⟨n0, n1, n2, n3, n4, n5, n6, b7, l8, bs⟩, ⟨_, _, rfl, h8, hb⟩, ⟨w0, w1, w2, w3, w4, w5, w6, g8'⟩⟩
end

end Go.Proofs.YtnjdepojmnniaaaGreatDoor

/- THE FRAME OF A LAW: a call that answers true and leaves all that was there as it was makes the row. No function is named here. -/
namespace Go.Proofs.YtnjdepojmnniaaaGreatDoor
open Go Go.RowKit Go.WideShapes Go.ChangeShapes Go.ChangeAt

theorem Tryz.own : ownKnob Tryz.prog.godebug = none := by kernel_rfl
theorem Tryz.laidOut : laidOutB Tryz.prog = true := by kernel_rfl

section
variable {H : Type} {enc : TypeId × Value → H} {P : Program}

/-- The arguments read as they did: below the heap's old size nothing has turned. -/
theorem below_trodAll (hl : laidOutB P = true) {W W' : World} (hb : Below W.heap.size W W') (sp : Nat → Bool) : ∀ (ts : List TypeId) (vs : List Value) (ds : List (DataW H)) (ps : List MemPlace),
    (ts.all fun t => P.readableRec t && decide (t < P.types.size)) = true → DataW.TrodAll enc P W 0 (fun _ => true) true ts vs ds ps → (∀ p ∈ ps, p.block < W.heap.size) → (∀ p ∈ ps, sp p.block = true) → DataW.TrodAll enc P W' 0 sp true ts vs ds ps
  | [], [], [], _, _, h, _, _ => h
  | t :: ts, v :: vs, d :: ds, ps, hr, h, hlt, hsp => by
    obtain ⟨p, q, h1, h2, rfl⟩ := h
    simp only [List.all_cons, Bool.and_eq_true, decide_eq_true_eq] at hr
    exact ⟨p, q, WideElems.Trod_stays hl hr.1.1 hr.1.2 h1 (fun x hx => hb.same (hlt x (List.mem_append_left _ hx))) (fun x hx => hsp x (List.mem_append_left _ hx)),
      below_trodAll hl hb sp ts vs ds q hr.2 h2 (fun x hx => hlt x (List.mem_append_right _ hx)) (fun x hx => hsp x (List.mem_append_right _ hx)), rfl⟩
  | [], [], _ :: _, _, _, h, _, _ => h.elim
  | [], _ :: _, _, _, _, h, _, _ => h.elim
  | _ :: _, [], _, _, _, h, _, _ => h.elim
  | _ :: _, _ :: _, [], _, _, h, _, _ => h.elim

theorem trodAll_length {W : World} {sp : Nat → Bool} {b : Nat} {hd : Bool} : ∀ (ts : List TypeId) (vs : List Value) (ds : List (DataW H)) (ps : List MemPlace), DataW.TrodAll enc P W b sp hd ts vs ds ps → ds.length = ts.length
  | [], [], [], _, _ => rfl
  | t :: ts, v :: vs, d :: ds, ps, h => by
    obtain ⟨p, q, _, h2, _⟩ := h
    simp [trodAll_length ts vs ds q h2]
  | [], [], _ :: _, _, h => h.elim
  | [], _ :: _, _, _, h => h.elim
  | _ :: _, [], _, _, h => h.elim
  | _ :: _, _ :: _, [], _, h => h.elim

/-- The post of a law. -/
theorem law_post {f : Func} {s : ChangeSpec} {tb : TypeId} {fresh handsOn : Bool} {W W' : World} {args : Array Value} {ds gs : List (DataW H)} {before : List MemPlace} (hl : laidOutB P = true) (htb : P.underlying tb = some .bool) (hres : f.resultTypes = #[tb])
    (hvars : s.vars = []) (hall : (f.params.toList.all fun t => P.readableRec t && decide (t < P.types.size)) = true) (hspec : ∀ ds : List (DataW H), ds.length = f.params.size → s.fn H ds = { results := [.lit (.bool true)], args := ds })
    (hW : DataW.Whole enc P f.params.toList s.vars false W args.toList ds gs before) (hb : Below W.heap.size W W') : s.post enc P f false fresh handsOn false W args (.bool true) W' := by
  have hlt : ∀ p ∈ before, p.block < W.heap.size := fun p hp => hW.lt p hp
  have hold : ∀ p ∈ before, (fun b => decide (b < W.heap.size)) p.block = true := fun p hp => by simpa using hlt p hp
  have hW' := hW
  obtain ⟨p, q, hA, hV, rfl, hz, hn⟩ := hW
  rw [hvars] at hV
  obtain ⟨rfl, rfl⟩ := trodVars_none hV
  have hln : ds.length = f.params.size := by rw [trodAll_length _ _ _ _ hA]; simp
  have hsp : s.fn H (ds ++ []) = { results := [.lit (.bool true)], args := ds } := by rw [List.append_nil]; exact hspec ds hln
  rw [List.append_nil] at hlt hold hW'
  refine ⟨ds, [], p, [], p, [], hW', ?_, ?_, ?_, World.keptBut_mono (fun x hx => ⟨hx, by simpa using hx⟩) (hb.frame (· ∈ p)), fun h => by cases h⟩
  · rw [hsp, hres]
    exact trodAll_mk1 (shut_bool htb true)
  · rw [hsp]
    exact below_trodAll hl hb _ _ _ _ _ hall hA hlt hold
  · rw [hvars]
    have e : (s.fn H (ds ++ [])).vars = [] := by rw [hsp]
    rw [e]
    rfl
end

set_option maxRecDepth 100000 in
/-- From the contract «to» the row's premise. -/
theorem law_lifted {k : FuncId} {fn : Func} {s : ChangeSpec} {fresh handsOn : Bool} (os : Os) (started : os.Started) (H : Type) (enc : TypeId × Value → H)
    (noInit : Tryz.checked.prog.inits.idxOf? k = none) (hfn : Tryz.checked.prog.funcs[k]? = some fn) (hres : fn.resultTypes = #[4]) (hvars : s.vars = []) (hall : (fn.params.toList.all fun t => Tryz.prog.readableRec t && decide (t < Tryz.prog.types.size)) = true)
    (hspec : ∀ ds : List (DataW H), ds.length = fn.params.size → s.fn H ds = { results := [.lit (.bool true)], args := ds })
    (witness : ∃ (w : World) (tape : Tape) (i : Input), w.os = os ∧ (w.forCall tape i).Shaped Tryz.checked.prog ∧ i.vars = [] ∧ Input.okWide Tryz.checked.prog (w.forCall tape i) .any w.heap.size k i ∧
      s.pre6 enc Tryz.checked.prog fn [] false (w.forCall tape i).memory i.args ∧ ({} : Assume).holds Tryz.checked.prog (lone (Frame.enter Tryz.checked.prog k i.args .normal) [] (w.forCall tape i)))
    (contract : ∀ (W : World) (base : Nat) (args : Array Value) (ds : List (DataW H)) (p : List MemPlace), (∀ (j : Nat) t v, fn.params[j]? = some t → args[j]? = some v → Value.okWide Tryz.prog W .any base t v) →
      DataW.TrodAll enc Tryz.prog W 0 (fun _ => true) true fn.params.toList args.toList ds p → (∀ x ∈ p, x.block < W.heap.size) → Calls Tryz.prog k args W fun e W' => e = .returned (.bool true) ∧ Below W.heap.size W W') :
    ReturnsInHanded {} Tryz.checked os k .any (s.pre6 enc Tryz.prog fn [] false) (s.post enc Tryz.prog fn false fresh handsOn false) := by
  refine returnsInHanded_of_change (C := Tryz.checked) Tryz.own started noInit hfn witness ?_
  intro W base args ds gs before hval0 hW _ _
  have hlt : ∀ x ∈ before, x.block < W.heap.size := fun x hx => hW.lt x hx
  have hW' := hW
  obtain ⟨p, q, hA, hV, rfl, hz, hn⟩ := hW
  refine (contract W base args ds p hval0 hA (fun x hx => hlt x (List.mem_append_left _ hx))).mono fun e W' ⟨he, hb⟩ => ?_
  subst he
  exact ⟨_, rfl, law_post Tryz.laidOut Tryz.underlying4 hres hvars hall hspec hW' hb⟩

end Go.Proofs.YtnjdepojmnniaaaGreatDoor

/- THE FRAME OF A LAW whose row lists the library's tables: a call that answers true and leaves all that was there as it was makes the row. No function is named here. -/
namespace Go.Proofs.YtnjdepojmnniaaaGreatDoor
open Go Go.RowKit Go.WideShapes Go.ChangeShapes Go.ChangeAt

theorem Tryz.u8Extra : U8Extra Tryz.prog Tryz.lays260_ren := { n3 := by kernel_rfl, n4 := by kernel_rfl, y3 := by kernel_rfl, y4 := by kernel_rfl, c5 := by kernel_rfl, c119 := by kernel_rfl, c138 := by kernel_rfl }
theorem first_data : Rows.laid_unicode_utf8_first = Lib.firstData := by kernel_rfl
theorem accept_data : (Rows.laid_unicode_utf8_acceptRanges : DataW Unit) = Lib.acceptData := by kernel_rfl
theorem pow_data : (Rows.laid_internal_strconv_uint64pow10 : DataW Unit) = Lib.tabData .u64 Lib.pow10Tab := by kernel_rfl
theorem tabs_of_laid {l : List (String × DataW Unit)} {W : World} (h : laidMet Tryz.prog l W) (h1 : ("unicode/utf8.first", Rows.laid_unicode_utf8_first) ∈ l) (h2 : ("unicode/utf8.acceptRanges", Rows.laid_unicode_utf8_acceptRanges) ∈ l) (h3 : ("internal/strconv.uint64pow10", Rows.laid_internal_strconv_uint64pow10) ∈ l) : Tabs W := by
  rw [first_data] at h1
  rw [accept_data] at h2
  rw [pow_data] at h3
  refine ⟨utf8Tabs_of_reads Tryz.lays260 Tryz.u8Extra (Lib.laidMet.reads h h1) (Lib.laidMet.reads h h2), ?_⟩
  obtain ⟨g, t, cs, fuel, p, hg, hty, hvar, hd⟩ := Lib.laidMet.reads h h3
  obtain rfl := Option.some.inj ((show Tryz.prog.globalNamed "internal/strconv.uint64pow10" = some 5 by kernel_rfl).symm.trans hg)
  obtain rfl := Option.some.inj ((show (Tryz.prog.globals[5]?).map (·.type) = some 184 by kernel_rfl).symm.trans hty)
  unfold Lib.TabIs
  rw [hvar, ← Lib.cells_of_tab Tryz.underlying184 Tryz.underlying99 (by kernel_rfl) (by kernel_rfl) hd]

set_option maxRecDepth 100000 in
/-- From the contract «to» the row's premise, where variables are listed. -/
theorem laid_lifted {k : FuncId} {fn : Func} {s : ChangeSpec} {fresh handsOn : Bool} {l : List (String × DataW Unit)} (os : Os) (started : os.Started) (H : Type) (enc : TypeId × Value → H)
    (noInit : Tryz.checked.prog.inits.idxOf? k = none) (hfn : Tryz.checked.prog.funcs[k]? = some fn) (hres : fn.resultTypes = #[4]) (hvars : s.vars = []) (hall : (fn.params.toList.all fun t => Tryz.prog.readableRec t && decide (t < Tryz.prog.types.size)) = true)
    (hspec : ∀ ds : List (DataW H), ds.length = fn.params.size → s.fn H ds = { results := [.lit (.bool true)], args := ds })
    (witness : ∃ (w : World) (tape : Tape) (i : Input), w.os = os ∧ (w.forCall tape i).Shaped Tryz.checked.prog ∧ i.vars = [] ∧ Input.okWide Tryz.checked.prog (w.forCall tape i) .any w.heap.size k i ∧
      ((s.pre enc Tryz.checked.prog fn [] false (w.forCall tape i).memory i.args ∧ laidMetH Tryz.prog l (w.forCall tape i).memory) ∧ sizedMet enc Tryz.checked.prog fn (OpenSpec.ofChange s) false (w.forCall tape i).memory i.args) ∧ ({} : Assume).holds Tryz.checked.prog (lone (Frame.enter Tryz.checked.prog k i.args .normal) [] (w.forCall tape i)))
    (contract : ∀ (W : World) (base : Nat) (args : Array Value) (ds : List (DataW H)) (p : List MemPlace), (∀ (j : Nat) t v, fn.params[j]? = some t → args[j]? = some v → Value.okWide Tryz.prog W .any base t v) →
      DataW.TrodAll enc Tryz.prog W 0 (fun _ => true) true fn.params.toList args.toList ds p → (∀ x ∈ p, x.block < W.heap.size) → laidMetH Tryz.prog l W → Calls Tryz.prog k args W fun e W' => e = .returned (.bool true) ∧ Below W.heap.size W W') :
    ReturnsInHanded {} Tryz.checked os k .any (fun w args => (s.pre enc Tryz.prog fn [] false w args ∧ laidMetH Tryz.prog l w) ∧ sizedMet enc Tryz.prog fn (OpenSpec.ofChange s) false w args) (s.post enc Tryz.prog fn false fresh handsOn false) := by
  refine returnsInHanded_of_change_and (C := Tryz.checked) (X := fun w _ => laidMetH Tryz.prog l w) (fun _ _ _ hh h => h.of_heap hh) Tryz.own started noInit hfn witness ?_
  intro W base args ds gs before hval0 hW hc _ hL _
  have hlt : ∀ x ∈ before, x.block < W.heap.size := fun x hx => hW.lt x hx
  have hW' := hW
  obtain ⟨p, q, hA, hV, rfl, hz, hn⟩ := hW
  refine (contract W base args ds p hval0 hA (fun x hx => hlt x (List.mem_append_left _ hx)) hL).mono fun e W' ⟨he, hb⟩ => ?_
  subst he
  exact ⟨_, rfl, law_post Tryz.laidOut Tryz.underlying4 hres hvars hall hspec hW' hb⟩

end Go.Proofs.YtnjdepojmnniaaaGreatDoor

/- The frame of a law (LawL), with the arguments' sizes handed on; how long a slice of bytes may be. No function is named here. -/
namespace Go.Proofs.YtnjdepojmnniaaaGreatDoor
open Go Go.RowKit Go.WideShapes Go.ChangeShapes Go.ChangeAt

theorem bytes_short {H : Type} {enc : TypeId × Value → H} {w : World} {a : Option Addr} {len cap : Nat} {d : DataW H} {ps : List MemPlace} (h : DataW.Trod enc Tryz.prog w 0 (fun _ => true) true 36 (.slice a len cap) d ps)
    (hz : ∀ (elems spare : List (DataW H)), d = .slice elems spare → (elems.length + spare.length) * Tryz.prog.bytesOf 5 ≤ reachBytes) : len ≤ 140737488351232 := by
  obtain ⟨fuel, h⟩ := h
  rcases DataW.trod_slice Tryz.underlying36 h with ⟨e, _⟩ | ⟨a', len', cap', elems, rest, m, _, e, hx, _, _, _, hl, _⟩
  · simp [Value.cells] at e
    omega
  · simp [Value.cells] at e
    obtain ⟨_, rfl, _⟩ := e
    have hd : d = .slice (elems.map (·.1)) (rest.map (·.1)) := congrArg Prod.fst hx
    have := hz _ _ hd
    rw [show Tryz.prog.bytesOf 5 = 1 by kernel_rfl, show reachBytes = 140737488351232 from rfl] at this
    simp at this
    omega

set_option maxRecDepth 100000 in
/-- From the contract «to» the row's premise, where variables are listed; the arguments' sizes are handed on. -/
theorem laid_lifted_sized {k : FuncId} {fn : Func} {s : ChangeSpec} {fresh handsOn : Bool} {l : List (String × DataW Unit)} (os : Os) (started : os.Started) (H : Type) (enc : TypeId × Value → H)
    (noInit : Tryz.checked.prog.inits.idxOf? k = none) (hfn : Tryz.checked.prog.funcs[k]? = some fn) (hres : fn.resultTypes = #[4]) (hvars : s.vars = []) (hall : (fn.params.toList.all fun t => Tryz.prog.readableRec t && decide (t < Tryz.prog.types.size)) = true)
    (hspec : ∀ ds : List (DataW H), ds.length = fn.params.size → s.fn H ds = { results := [.lit (.bool true)], args := ds })
    (witness : ∃ (w : World) (tape : Tape) (i : Input), w.os = os ∧ (w.forCall tape i).Shaped Tryz.checked.prog ∧ i.vars = [] ∧ Input.okWide Tryz.checked.prog (w.forCall tape i) .any w.heap.size k i ∧
      ((s.pre enc Tryz.checked.prog fn [] false (w.forCall tape i).memory i.args ∧ laidMetH Tryz.prog l (w.forCall tape i).memory) ∧ sizedMet enc Tryz.checked.prog fn (OpenSpec.ofChange s) false (w.forCall tape i).memory i.args) ∧ ({} : Assume).holds Tryz.checked.prog (lone (Frame.enter Tryz.checked.prog k i.args .normal) [] (w.forCall tape i)))
    (contract : ∀ (W : World) (base : Nat) (args : Array Value) (ds : List (DataW H)) (p : List MemPlace), (∀ (j : Nat) t v, fn.params[j]? = some t → args[j]? = some v → Value.okWide Tryz.prog W .any base t v) →
      DataW.TrodAll enc Tryz.prog W 0 (fun _ => true) true fn.params.toList args.toList ds p → (∀ x ∈ p, x.block < W.heap.size) → laidMetH Tryz.prog l W → (∀ (j : Nat) (t e : TypeId) (elems spare : List (DataW H)), fn.params[j]? = some t → ds[j]? = some (.slice elems spare) → Tryz.prog.underlying t = some (.slice e) → (elems.length + spare.length) * Tryz.prog.bytesOf e ≤ reachBytes) → Calls Tryz.prog k args W fun e W' => e = .returned (.bool true) ∧ Below W.heap.size W W') :
    ReturnsInHanded {} Tryz.checked os k .any (fun w args => (s.pre enc Tryz.prog fn [] false w args ∧ laidMetH Tryz.prog l w) ∧ sizedMet enc Tryz.prog fn (OpenSpec.ofChange s) false w args) (s.post enc Tryz.prog fn false fresh handsOn false) := by
  refine returnsInHanded_of_change_and (C := Tryz.checked) (X := fun w _ => laidMetH Tryz.prog l w) (fun _ _ _ hh h => h.of_heap hh) Tryz.own started noInit hfn witness ?_
  intro W base args ds gs before hval0 hW hc hZ hL _
  have hlt : ∀ x ∈ before, x.block < W.heap.size := fun x hx => hW.lt x hx
  have hW' := hW
  obtain ⟨p, q, hA, hV, rfl, hz, hn⟩ := hW
  refine (contract W base args ds p hval0 hA (fun x hx => hlt x (List.mem_append_left _ hx)) hL (fun j t e elems spare ht hd hu => sized_slice hZ (j := j) (t := t) (by rw [List.getElem?_append_left (by have := (Array.getElem?_eq_some_iff.1 ht).1; simpa using this)]; simpa using ht) (by rw [List.getElem?_append_left (List.getElem?_eq_some_iff.1 hd).1]; exact hd) hu)).mono fun e W' ⟨he, hb⟩ => ?_
  subst he
  exact ⟨_, rfl, law_post Tryz.laidOut Tryz.underlying4 hres hvars hall hspec hW' hb⟩

end Go.Proofs.YtnjdepojmnniaaaGreatDoor
