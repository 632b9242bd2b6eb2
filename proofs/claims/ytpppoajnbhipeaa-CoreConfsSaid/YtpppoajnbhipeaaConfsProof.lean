/- 'CoreConfs' returns true whatever the input, and what came in reads as it did. -/
import Derived.Test.YtpppoajnbhipeaaCoreH
import Derived.Test.YtpppoajnbhipeaaLaw
import Derived.Test.YtpppoajnbhipeaaOpen
namespace Go.Proofs.Ytpppoajnbhipeaa
open Go Go.RowKit Go.WideShapes Go.ChangeShapes Go.Deep

section
variable {H : Type} {enc : TypeId × Value → H}
set_option maxRecDepth 100000 in
/-- A CONFIG that comes in by value. -/
theorem open_conf {w : World} {v : Value} {d : DataW H} {ps : List MemPlace} (hv : ∃ cs, v = .agg cs ∧ cs.size = Try.prog.cellsOf 23) (h : DataW.Trod enc Try.prog w 0 (fun _ => true) true 23 v d ps) : ∃ cf, v = confV cf := by
  obtain ⟨cs, rfl, _⟩ := hv
  obtain ⟨fuel, h⟩ := h
  obtain ⟨xs, n, hx0, _, hl, hxs, hf⟩ := DataW.trod_struct Try.underlying23 h
  have e9 : Try.prog.cellsOf 23 = 9 := by kernel_rfl
  have eI : Try.prog.cellsOf 3 = 1 := by kernel_rfl
  rw [e9] at hl
  have hl' : cs.toList.length = 9 := by simpa [Value.cells] using hl
  have hx : ∀ i, i < 9 → ∃ y, xs[i]? = some y := fun i hi => ⟨xs[i]'(by rw [hxs]; exact hi), List.getElem?_eq_getElem _⟩
  match hcs : cs.toList, hl' with
  | [v0, v1, v2, v3, v4, v5, v6, v7, v8], _ =>
    simp only [Value.cells, hcs] at hf
    obtain ⟨y0, g0⟩ := hx 0 (by omega)
    obtain ⟨y1, g1⟩ := hx 1 (by omega)
    obtain ⟨y2, g2⟩ := hx 2 (by omega)
    obtain ⟨y3, g3⟩ := hx 3 (by omega)
    obtain ⟨y4, g4⟩ := hx 4 (by omega)
    obtain ⟨y5, g5⟩ := hx 5 (by omega)
    obtain ⟨y6, g6⟩ := hx 6 (by omega)
    obtain ⟨y7, g7⟩ := hx 7 (by omega)
    obtain ⟨y8, g8⟩ := hx 8 (by omega)
    have f0 : DataW.trod enc Try.prog w 0 (fun _ => true) true n 3 [v0] = some y0 := by simpa [eI, g0] using hf 0 ⟨ "Nodes", 3, 0, false, "", "", 0⟩ rfl
    have f1 : DataW.trod enc Try.prog w 0 (fun _ => true) true n 3 [v1] = some y1 := by simpa [eI, g1] using hf 1 ⟨ "Clients", 3, 1, false, "", "", 8⟩ rfl
    have f2 : DataW.trod enc Try.prog w 0 (fun _ => true) true n 3 [v2] = some y2 := by simpa [eI, g2] using hf 2 ⟨ "Heart", 3, 2, false, "", "", 16⟩ rfl
    have f3 : DataW.trod enc Try.prog w 0 (fun _ => true) true n 3 [v3] = some y3 := by simpa [eI, g3] using hf 3 ⟨ "Lo", 3, 3, false, "", "", 24⟩ rfl
    have f4 : DataW.trod enc Try.prog w 0 (fun _ => true) true n 3 [v4] = some y4 := by simpa [eI, g4] using hf 4 ⟨ "Range", 3, 4, false, "", "", 32⟩ rfl
    have f5 : DataW.trod enc Try.prog w 0 (fun _ => true) true n 3 [v5] = some y5 := by simpa [eI, g5] using hf 5 ⟨ "Sessions", 3, 5, false, "", "", 40⟩ rfl
    have f6 : DataW.trod enc Try.prog w 0 (fun _ => true) true n 3 [v6] = some y6 := by simpa [eI, g6] using hf 6 ⟨ "Snap", 3, 6, false, "", "", 48⟩ rfl
    have f7 : DataW.trod enc Try.prog w 0 (fun _ => true) true n 3 [v7] = some y7 := by simpa [eI, g7] using hf 7 ⟨ "Room", 3, 7, false, "", "", 56⟩ rfl
    have f8 : DataW.trod enc Try.prog w 0 (fun _ => true) true n 3 [v8] = some y8 := by simpa [eI, g8] using hf 8 ⟨ "Retry", 3, 8, false, "", "", 64⟩ rfl
    obtain ⟨n0, r0, _⟩ := open_num Try.underlying3 f0
    obtain ⟨n1, r1, _⟩ := open_num Try.underlying3 f1
    obtain ⟨n2, r2, _⟩ := open_num Try.underlying3 f2
    obtain ⟨n3, r3, _⟩ := open_num Try.underlying3 f3
    obtain ⟨n4, r4, _⟩ := open_num Try.underlying3 f4
    obtain ⟨n5, r5, _⟩ := open_num Try.underlying3 f5
    obtain ⟨n6, r6, _⟩ := open_num Try.underlying3 f6
    obtain ⟨n7, r7, _⟩ := open_num Try.underlying3 f7
    obtain ⟨n8, r8, _⟩ := open_num Try.underlying3 f8
    simp at r0 r1 r2 r3 r4 r5 r6 r7 r8
    subst r0 r1 r2 r3 r4 r5 r6 r7 r8
    refine ⟨⟨n0, n1, n2, n3, n4, n5, n6, n7, n8⟩, ?_⟩
    unfold confV
    congr 1
    apply Array.toList_inj.1
    rw [hcs]

theorem trodAll_six {P : Program} {w : World} {base : Nat} {spare : Nat → Bool} {held : Bool} {t t1 t2 t3 t4 t5 : TypeId} {args : Array Value} {ds : List (DataW H)} {ps : List MemPlace} (h : DataW.TrodAll enc P w base spare held [t, t1, t2, t3, t4, t5] args.toList ds ps) :
    ∃ v v1 v2 v3 v4 v5 d d1 d2 d3 d4 d5 p p1 p2 p3 p4 p5, args = #[v, v1, v2, v3, v4, v5] ∧ DataW.Trod enc P w base spare held t v d p ∧ DataW.Trod enc P w base spare held t1 v1 d1 p1 ∧ DataW.Trod enc P w base spare held t2 v2 d2 p2 ∧ DataW.Trod enc P w base spare held t3 v3 d3 p3 ∧ DataW.Trod enc P w base spare held t4 v4 d4 p4 ∧ DataW.Trod enc P w base spare held t5 v5 d5 p5 := by
  obtain ⟨v, vs, d, ds', p, q, hargs, rfl, rfl, hd, hrest⟩ := trodAll_cons h
  obtain ⟨v1, vs1, d1, ds1, p1, q1, rfl, rfl, rfl, hd1, hr1⟩ := trodAll_cons hrest
  obtain ⟨v2, vs2, d2, ds2, p2, q2, rfl, rfl, rfl, hd2, hr2⟩ := trodAll_cons hr1
  obtain ⟨v3, vs3, d3, ds3, p3, q3, rfl, rfl, rfl, hd3, hr3⟩ := trodAll_cons hr2
  obtain ⟨v4, vs4, d4, ds4, p4, q4, rfl, rfl, rfl, hd4, hr4⟩ := trodAll_cons hr3
  obtain ⟨v5, vs5, d5, ds5, p5, q5, rfl, rfl, rfl, hd5, hr5⟩ := trodAll_cons hr4
  obtain ⟨rfl, rfl, rfl⟩ := trodAll_nil hr5
  exact ⟨v, v1, v2, v3, v4, v5, d, d1, d2, d3, d4, d5, p, p1, p2, p3, p4, p5, by cases args; simp_all, hd, hd1, hd2, hd3, hd4, hd5⟩
end

set_option maxRecDepth 100000 in
theorem coreConfs_lifted (os : Os) (started : os.Started) (H : Type) (enc : TypeId × Value → H) :
    ReturnsInHanded {} Try.checked os 3 .any (Rows.coreConfsSpec.pre6 enc Try.prog Try.f3 Rows.coreConfsRow.domain false) (Rows.coreConfsSpec.post enc Try.prog Try.f3 false true false false) := by
  refine law_lifted os started H enc (by kernel_rfl) Try.func3 rfl rfl (by kernel_rfl) (fun ds hl => ?_) (ChangeSpec.witness6 (enc := enc) (C := Try.checked) false ⟨#[], #[.agg #[.int .i64 0, .int .i64 0, .int .i64 0, .int .i64 0, .int .i64 0, .int .i64 0, .int .i64 0, .int .i64 0, .int .i64 0], .int .i64 0, .int .i64 0, .int .i64 0, .int .i64 0, .int .i64 0], []⟩ 8 (by kernel_rfl) (by kernel_rfl) (by kernel_rfl) (by kernel_rfl)) ?_
  · match ds, hl with
    | [_, _, _, _, _, _], _ => rfl
  · intro W base args ds p hval hA hlt
    rw [Try.params3] at hA hval
    obtain ⟨v0, v1, v2, v3, v4, v5, d0, d1, d2, d3, d4, d5, p0, p1, p2, p3, p4, p5, rfl, h0, h1, h2, h3, h4, h5⟩ := trodAll_six hA
    obtain ⟨cf, rfl⟩ := open_conf (okWide_struct Try.underlying23 (hval 0 23 v0 rfl rfl)) h0
    obtain ⟨z1, rfl, rfl, rfl, _⟩ := open_int Try.underlying3 (hval 1 3 v1 rfl rfl) h1
    obtain ⟨z2, rfl, rfl, rfl, _⟩ := open_int Try.underlying3 (hval 2 3 v2 rfl rfl) h2
    obtain ⟨z3, rfl, rfl, rfl, _⟩ := open_int Try.underlying3 (hval 3 3 v3 rfl rfl) h3
    obtain ⟨z4, rfl, rfl, rfl, _⟩ := open_int Try.underlying3 (hval 4 3 v4 rfl rfl) h4
    obtain ⟨z5, rfl, rfl, rfl, _⟩ := open_int Try.underlying3 (hval 5 3 v5 rfl rfl) h5
    exact confs_walk cf z1 z2 z3 z4 z5 W

theorem coreConfs_holds : Rows.CoreConfsSaid :=
  OpenClaim.holds_of_wide 3 Try.f3 rfl rfl rfl rfl rfl rfl rfl ⟨rfl, rfl, rfl, rfl, rfl⟩ rfl rfl rfl rfl rfl (by kernel_rfl) Try.func3 (by kernel_rfl) (of_decide_eq_true (by kernel_rfl))
    (by unfold Func.isWrapper; rw [if_neg (of_decide_eq_false (by kernel_rfl))]; exact ⟨rfl, rfl⟩) (fun os started H enc _ => coreConfs_lifted os started H enc)

end Go.Proofs.Ytpppoajnbhipeaa
