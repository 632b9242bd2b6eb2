/- 'NetPlays' returns true whatever the input, and what came in reads as it did. -/
import Derived.Test.YthgdknhocjlphaaNetS
import Derived.Test.YthgdknhocjlphaaLaw
import Derived.Test.YthgdknhocjlphaaOpen
namespace Go.Proofs.Ythgdknhocjlphaa
open Go Go.RowKit Go.WideShapes Go.ChangeShapes Go.Deep

section
variable {H : Type} {enc : TypeId × Value → H}

/-- ONE OPERATION of the script, opened. -/
theorem open_op {w : World} {fuel : Nat} {a : Addr} {cs : List Value} {x : DataW H × List MemPlace} (hs : a.spot = none) (hc : w.cells? 0 a (Try.prog.cellsOf 41) = some cs) (h : DataW.trod enc Try.prog w 0 (fun _ => true) true fuel 41 cs = some x) :
    a.block < w.heap.size ∧ OpAt w w.heap.size a.block a.off := by
  obtain ⟨xs, n, rfl, _, hl, hxs, hf⟩ := DataW.trod_struct Try.underlying41 h
  have e5 : Try.prog.cellsOf 41 = 5 := by kernel_rfl
  have eI : Try.prog.cellsOf 3 = 1 := by kernel_rfl
  have eB : Try.prog.cellsOf 26 = 1 := by kernel_rfl
  rw [e5] at hc hl
  obtain ⟨_, _, hcell⟩ := World.cells?_some hc
  have hx : ∀ i, i < 5 → ∃ y, xs[i]? = some y := fun i hi => ⟨xs[i]'(by rw [hxs]; exact hi), List.getElem?_eq_getElem _⟩
  match cs, hl with
  | [v0, v1, v2, v3, v4], _ =>
    obtain ⟨y0, g0⟩ := hx 0 (by omega)
    obtain ⟨y1, g1⟩ := hx 1 (by omega)
    obtain ⟨y2, g2⟩ := hx 2 (by omega)
    obtain ⟨y3, g3⟩ := hx 3 (by omega)
    obtain ⟨y4, g4⟩ := hx 4 (by omega)
    have f0 : DataW.trod enc Try.prog w 0 (fun _ => true) true n 3 [v0] = some y0 := by simpa [eI, g0] using hf 0 ⟨ "Kind", 3, 0, false, "", "", 0⟩ rfl
    have f1 : DataW.trod enc Try.prog w 0 (fun _ => true) true n 3 [v1] = some y1 := by simpa [eI, g1] using hf 1 ⟨ "I", 3, 1, false, "", "", 8⟩ rfl
    have f2 : DataW.trod enc Try.prog w 0 (fun _ => true) true n 3 [v2] = some y2 := by simpa [eI, g2] using hf 2 ⟨ "At", 3, 2, false, "", "", 16⟩ rfl
    have f3 : DataW.trod enc Try.prog w 0 (fun _ => true) true n 3 [v3] = some y3 := by simpa [eI, g3] using hf 3 ⟨ "By", 3, 3, false, "", "", 24⟩ rfl
    have f4 : DataW.trod enc Try.prog w 0 (fun _ => true) true n 26 [v4] = some y4 := by simpa [eB, g4] using hf 4 ⟨ "B", 26, 4, false, "", "", 32⟩ rfl
    obtain ⟨n0, r0, w0⟩ := open_num Try.underlying3 f0
    obtain ⟨n1, r1, w1⟩ := open_num Try.underlying3 f1
    obtain ⟨n2, r2, w2⟩ := open_num Try.underlying3 f2
    obtain ⟨n3, r3, w3⟩ := open_num Try.underlying3 f3
    obtain ⟨b, c, bs, r4, hr, hb⟩ := open_bytes f4
    simp at r0 r1 r2 r3 r4
    subst r0 r1 r2 r3 r4
    have c0 := hcell 0 (by omega)
    have c1 := hcell 1 (by omega)
    have c2 := hcell 2 (by omega)
    have c3 := hcell 3 (by omega)
    have c4 := hcell 4 (by omega)
    rw [addr_at hs] at c0 c1 c2 c3 c4
    simp at c0 c1 c2 c3 c4
    exact ⟨block_lt (a := ⟨a.block, a.off, none⟩) c0, n0, n1, n2, n3, b, c, bs, c0, c1, c2, c3, c4, w0, w1, hr, hb⟩

/-- THE SCRIPT, opened. -/
theorem open_ops {w : World} {a : Option Addr} {len cap : Nat} {d : DataW H} {ps : List MemPlace} (h : DataW.Trod enc Try.prog w 0 (fun _ => true) true 37 (.slice a len cap) d ps) :
    ∃ (b off : Nat), (0 < len → a = some ⟨b, off, none⟩) ∧ (0 < len → b < w.heap.size) ∧ ∀ j, j < len → OpAt w w.heap.size b (off + j * 5) := by
  obtain ⟨fuel, h⟩ := h
  have e5 : Try.prog.cellsOf 41 = 5 := by kernel_rfl
  rcases open_slice Try.underlying37 h with ⟨e, _⟩ | ⟨a', len', cap', m, n, D, Pl, e, _, hlc, _, hm, _, hel⟩
  · simp [Value.cells] at e
    obtain ⟨_, rfl, _⟩ := e
    exact ⟨0, 0, fun h => absurd h (by omega), fun h => absurd h (by omega), fun j h => absurd h (by omega)⟩
  · simp [Value.cells] at e
    obtain ⟨rfl, rfl, rfl⟩ := e
    simp only [if_true] at hm
    subst hm
    have hsp : 0 < len → a'.spot = none := fun h0 => by
      obtain ⟨cs', h1, h2⟩ := hel 0 (by omega)
      rw [e5] at h1
      have := (World.cells?_some h1).2.2 0 (by omega)
      have hl := (World.cells?_some h1).2.1
      rw [List.getElem?_eq_getElem (by omega)] at this
      simpa [Addr.add] using spot_of_cell this
    refine ⟨a'.block, a'.off, fun h0 => ?_, fun h0 => ?_, fun j hj => ?_⟩
    · have := hsp h0
      cases a'; simp at this; subst this; rfl
    · obtain ⟨cs', h1, h2⟩ := hel 0 (by omega)
      simp only [Nat.zero_mul, addr_at (hsp h0)] at h1
      exact (open_op rfl h1 h2).1
    · obtain ⟨cs', h1, h2⟩ := hel j (by omega)
      rw [e5, addr_at (hsp (by omega))] at h1
      exact (open_op rfl (by rw [e5]; exact h1) h2).2
end

set_option maxRecDepth 100000 in
theorem netPlays_lifted (os : Os) (started : os.Started) (H : Type) (enc : TypeId × Value → H) :
    ReturnsInHanded {} Try.checked os 5 .any (Rows.netPlaysSpec.pre6 enc Try.prog Try.f5 Rows.netPlaysRow.domain false) (Rows.netPlaysSpec.post enc Try.prog Try.f5 false true false false) := by
  refine law_lifted os started H enc (by kernel_rfl) Try.func5 rfl rfl (by kernel_rfl) (fun ds hl => ?_) (ChangeSpec.witness6 (enc := enc) (C := Try.checked) false ⟨#[], #[.int .i64 0, .slice none 0 0], []⟩ 8 (by kernel_rfl) (by kernel_rfl) (by kernel_rfl) (by kernel_rfl)) ?_
  · match ds, hl with
    | [_, _], _ => rfl
  · intro W base args ds p hval hA hlt
    rw [Try.params5] at hA hval
    obtain ⟨v0, v1, d0, d1, p0, p1, rfl, rfl, rfl, h0, h1⟩ := trodAll_two hA
    obtain ⟨z, rfl, rfl, rfl, wz⟩ := open_int Try.underlying3 (hval 0 3 v0 rfl rfl) h0
    obtain ⟨a, len, cap, rfl⟩ := okWide_slice Try.underlying37 (hval 1 37 v1 rfl rfl)
    obtain ⟨b, off, ha, hb, hop⟩ := open_ops h1
    exact NetPlays_any z b off len cap W hb hop a ha

theorem netPlays_holds : Rows.NetPlaysSaid :=
  OpenClaim.holds_of_wide 5 Try.f5 rfl rfl rfl rfl rfl rfl rfl ⟨rfl, rfl, rfl, rfl, rfl⟩ rfl rfl rfl rfl rfl (by kernel_rfl) Try.func5 (by kernel_rfl) (of_decide_eq_true (by kernel_rfl))
    (by unfold Func.isWrapper; rw [if_neg (of_decide_eq_false (by kernel_rfl))]; exact ⟨rfl, rfl⟩) (fun os started H enc _ => netPlays_lifted os started H enc)

end Go.Proofs.Ythgdknhocjlphaa
