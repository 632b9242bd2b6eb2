/- Commands and replies that come in, opened. No function is named here. -/
import Derived.Test.YtbbdmmhpbeleoaaDoorQ29
import Derived.Test.YtbbdmmhpbeleoaaDoorQ22
import Derived.Test.YtbbdmmhpbeleoaaDoorCmO

set_option linter.unusedSimpArgs false
set_option linter.unusedVariables false
namespace Go.Proofs.YtbbdmmhpbeleoaaDoor
open Go Go.RowKit Go.WideShapes Go.ChangeShapes Go.ChangeAt

section
variable {H : Type} {enc : TypeId × Value → H}
set_option maxRecDepth 100000 in
theorem open_val (w : World) (fuel : Nat) (cs : List Value) (x : DataW H × List MemPlace) (h : DataW.trod enc Tryd.prog w 0 (fun _ => true) true fuel 24 cs = some x) (_hl : cs.length = 3) : ∃ v : ValD, cs = [.int .i64 v.kind, .int .i64 v.n, .string v.s] ∧ I64 v.kind ∧ I64 v.n ∧ v.s.size ≤ 9223372036854775807 := by
  obtain ⟨xs, n, rfl, _, hl, hxs, hf⟩ := DataW.trod_struct Tryd.underlying24 h
  have e3 : Tryd.prog.cellsOf 24 = 3 := by kernel_rfl
  have eI : Tryd.prog.cellsOf 3 = 1 := by kernel_rfl
  have eJ : Tryd.prog.cellsOf 2 = 1 := by kernel_rfl
  have eS : Tryd.prog.cellsOf 9 = 1 := by kernel_rfl
  rw [e3] at hl
  have hx : ∀ i, i < 3 → ∃ y, xs[i]? = some y := fun i hi => ⟨xs[i]'(by rw [hxs]; exact hi), List.getElem?_eq_getElem _⟩
  match cs, hl with
  | [v0, v1, v2], _ =>
    obtain ⟨y0, g0⟩ := hx 0 (by omega)
    obtain ⟨y1, g1⟩ := hx 1 (by omega)
    obtain ⟨y2, g2⟩ := hx 2 (by omega)
    have f0 : DataW.trod enc Tryd.prog w 0 (fun _ => true) true n 3 [v0] = some y0 := by simpa [eI, g0] using hf 0 ⟨ "Kind", 3, 0, false, "", "", 0⟩ rfl
    have f1 : DataW.trod enc Tryd.prog w 0 (fun _ => true) true n 2 [v1] = some y1 := by simpa [eJ, g1] using hf 1 ⟨ "N", 2, 1, false, "", "", 8⟩ rfl
    have f2 : DataW.trod enc Tryd.prog w 0 (fun _ => true) true n 9 [v2] = some y2 := by simpa [eS, g2] using hf 2 ⟨ "S", 9, 2, false, "", "", 16⟩ rfl
    obtain ⟨n0, r0, _, w0⟩ := DataW.trod_int Tryd.underlying3 f0
    obtain ⟨n1, r1, _, w1⟩ := DataW.trod_int Tryd.underlying2 f1
    obtain ⟨s, r2, _, w2⟩ := DataW.trod_string Tryd.underlying9 f2
    simp at r0 r1 r2
    subst r0 r1 r2
    exact ⟨⟨n0, n1, s⟩, rfl, i64_of_wf w0, i64_of_wf w1, maxLen_le w2⟩

set_option maxRecDepth 100000 in
theorem open_cmd (w : World) (fuel : Nat) (cs : List Value) (x : DataW H × List MemPlace) (h : DataW.trod enc Tryd.prog w 0 (fun _ => true) true fuel 34 cs = some x) (_hl : cs.length = 8) :
    ∃ c : CmdD, cs = [.int .i64 c.kind, .int .i64 c.session, .int .i64 c.seq, .string c.field, .int .i64 c.version, .int .i64 c.value.kind, .int .i64 c.value.n, .string c.value.s] ∧ CmdI c := by
  obtain ⟨xs, n, rfl, _, hl, hxs, hf⟩ := DataW.trod_struct Tryd.underlying34 h
  have e8 : Tryd.prog.cellsOf 34 = 8 := by kernel_rfl
  have e3 : Tryd.prog.cellsOf 24 = 3 := by kernel_rfl
  have eI : Tryd.prog.cellsOf 3 = 1 := by kernel_rfl
  have eS : Tryd.prog.cellsOf 9 = 1 := by kernel_rfl
  rw [e8] at hl
  have hx : ∀ i, i < 6 → ∃ y, xs[i]? = some y := fun i hi => ⟨xs[i]'(by rw [hxs]; exact hi), List.getElem?_eq_getElem _⟩
  match cs, hl with
  | [v0, v1, v2, v3, v4, v5, v6, v7], _ =>
    obtain ⟨y0, g0⟩ := hx 0 (by omega)
    obtain ⟨y1, g1⟩ := hx 1 (by omega)
    obtain ⟨y2, g2⟩ := hx 2 (by omega)
    obtain ⟨y3, g3⟩ := hx 3 (by omega)
    obtain ⟨y4, g4⟩ := hx 4 (by omega)
    obtain ⟨y5, g5⟩ := hx 5 (by omega)
    have f0 : DataW.trod enc Tryd.prog w 0 (fun _ => true) true n 3 [v0] = some y0 := by simpa [eI, g0] using hf 0 ⟨ "Kind", 3, 0, false, "", "", 0⟩ rfl
    have f1 : DataW.trod enc Tryd.prog w 0 (fun _ => true) true n 3 [v1] = some y1 := by simpa [eI, g1] using hf 1 ⟨ "Session", 3, 1, false, "", "", 8⟩ rfl
    have f2 : DataW.trod enc Tryd.prog w 0 (fun _ => true) true n 3 [v2] = some y2 := by simpa [eI, g2] using hf 2 ⟨ "Seq", 3, 2, false, "", "", 16⟩ rfl
    have f3 : DataW.trod enc Tryd.prog w 0 (fun _ => true) true n 9 [v3] = some y3 := by simpa [eS, g3] using hf 3 ⟨ "Field", 9, 3, false, "", "", 24⟩ rfl
    have f4 : DataW.trod enc Tryd.prog w 0 (fun _ => true) true n 3 [v4] = some y4 := by simpa [eI, g4] using hf 4 ⟨ "Version", 3, 4, false, "", "", 40⟩ rfl
    have f5 : DataW.trod enc Tryd.prog w 0 (fun _ => true) true n 24 [v5, v6, v7] = some y5 := by simpa [e3, g5] using hf 5 ⟨ "Value", 24, 5, false, "", "", 48⟩ rfl
    obtain ⟨n0, r0, _, w0⟩ := DataW.trod_int Tryd.underlying3 f0
    obtain ⟨n1, r1, _, w1⟩ := DataW.trod_int Tryd.underlying3 f1
    obtain ⟨n2, r2, _, w2⟩ := DataW.trod_int Tryd.underlying3 f2
    obtain ⟨s, r3, _, _⟩ := DataW.trod_string Tryd.underlying9 f3
    obtain ⟨n4, r4, _, w4⟩ := DataW.trod_int Tryd.underlying3 f4
    obtain ⟨v, r5, h1, h2, _⟩ := open_val w n _ y5 f5 rfl
    simp at r0 r1 r2 r3 r4 r5
    obtain ⟨rfl, rfl, rfl⟩ := r5
    subst r0 r1 r2 r3 r4
    exact ⟨⟨n0, n1, n2, s, n4, v⟩, rfl, ⟨i64_of_wf w0, i64_of_wf w1, i64_of_wf w2, i64_of_wf w4, h1, h2⟩⟩

set_option maxRecDepth 100000 in
theorem open_reply (w : World) (fuel : Nat) (cs : List Value) (x : DataW H × List MemPlace) (h : DataW.trod enc Tryd.prog w 0 (fun _ => true) true fuel 26 cs = some x) (_hl : cs.length = 5) :
    ∃ r : ReplyD, cs = [.int .i64 r.err, .int .i64 r.n, .int .i64 r.value.kind, .int .i64 r.value.n, .string r.value.s] ∧ ReplyI r := by
  obtain ⟨xs, n, rfl, _, hl, hxs, hf⟩ := DataW.trod_struct Tryd.underlying26 h
  have e5 : Tryd.prog.cellsOf 26 = 5 := by kernel_rfl
  have e3 : Tryd.prog.cellsOf 24 = 3 := by kernel_rfl
  have eI : Tryd.prog.cellsOf 3 = 1 := by kernel_rfl
  have eE : Tryd.prog.cellsOf 22 = 1 := by kernel_rfl
  rw [e5] at hl
  have hx : ∀ i, i < 3 → ∃ y, xs[i]? = some y := fun i hi => ⟨xs[i]'(by rw [hxs]; exact hi), List.getElem?_eq_getElem _⟩
  match cs, hl with
  | [v0, v1, v2, v3, v4], _ =>
    obtain ⟨y0, g0⟩ := hx 0 (by omega)
    obtain ⟨y1, g1⟩ := hx 1 (by omega)
    obtain ⟨y2, g2⟩ := hx 2 (by omega)
    have f0 : DataW.trod enc Tryd.prog w 0 (fun _ => true) true n 22 [v0] = some y0 := by simpa [eE, g0] using hf 0 ⟨ "Err", 22, 0, false, "", "", 0⟩ rfl
    have f1 : DataW.trod enc Tryd.prog w 0 (fun _ => true) true n 3 [v1] = some y1 := by simpa [eI, g1] using hf 1 ⟨ "N", 3, 1, false, "", "", 8⟩ rfl
    have f2 : DataW.trod enc Tryd.prog w 0 (fun _ => true) true n 24 [v2, v3, v4] = some y2 := by simpa [e3, g2] using hf 2 ⟨ "Value", 24, 2, false, "", "", 16⟩ rfl
    obtain ⟨n0, r0, _, w0⟩ := DataW.trod_int Tryd.underlying22 f0
    obtain ⟨n1, r1, _, w1⟩ := DataW.trod_int Tryd.underlying3 f1
    obtain ⟨v, r2, h1, h2, _⟩ := open_val w n _ y2 f2 rfl
    simp at r0 r1 r2
    obtain ⟨rfl, rfl, rfl⟩ := r2
    subst r0 r1
    exact ⟨⟨n0, n1, v⟩, rfl, ⟨i64_of_wf w0, i64_of_wf w1, h1, h2⟩⟩

set_option maxRecDepth 100000 in
theorem open_cmd_arg {w : World} {r : Reach} {b0 : Nat} {v : Value} {d : DataW H} {p : List MemPlace} (hv : Value.okWide Tryd.prog w r b0 34 v) (h : DataW.Trod enc Tryd.prog w 0 (fun _ => true) true 34 v d p) : ∃ c : CmdD, v = cmdV c ∧ CmdI c := by
  obtain ⟨cs, rfl, hsz⟩ := okWide_struct Tryd.underlying34 hv
  obtain ⟨fuel, hf⟩ := h
  obtain ⟨c, h1, h2⟩ := open_cmd w fuel _ _ hf (by show cs.toList.length = 8; rw [Array.length_toList, hsz]; kernel_rfl)
  exact ⟨c, by unfold cmdV; rw [show cs = #[.int .i64 c.kind, .int .i64 c.session, .int .i64 c.seq, .string c.field, .int .i64 c.version, .int .i64 c.value.kind, .int .i64 c.value.n, .string c.value.s] from Array.toList_inj.1 h1], h2⟩
set_option maxRecDepth 100000 in
theorem open_reply_arg {w : World} {r : Reach} {b0 : Nat} {v : Value} {d : DataW H} {p : List MemPlace} (hv : Value.okWide Tryd.prog w r b0 26 v) (h : DataW.Trod enc Tryd.prog w 0 (fun _ => true) true 26 v d p) : ∃ x : ReplyD, v = replyV x ∧ ReplyI x := by
  obtain ⟨cs, rfl, hsz⟩ := okWide_struct Tryd.underlying26 hv
  obtain ⟨fuel, hf⟩ := h
  obtain ⟨c, h1, h2⟩ := open_reply w fuel _ _ hf (by show cs.toList.length = 5; rw [Array.length_toList, hsz]; kernel_rfl)
  exact ⟨c, by unfold replyV; rw [show cs = #[.int .i64 c.err, .int .i64 c.n, .int .i64 c.value.kind, .int .i64 c.value.n, .string c.value.s] from Array.toList_inj.1 h1], h2⟩
set_option maxRecDepth 100000 in
/-- A byte. -/
theorem open_byte {w : World} {r : Reach} {b0 : Nat} {v : Value} {d : DataW H} {p : List MemPlace} (hv : Value.okWide Tryd.prog w r b0 5 v) (h : DataW.Trod enc Tryd.prog w 0 (fun _ => true) true 5 v d p) : ∃ x : UInt8, v = .int .u8 x.toNat := by
  obtain ⟨n, rfl, _, _, hw⟩ := open_int Tryd.underlying5 hv h
  have e1 : IntKind.u8.min = 0 := by rfl
  have e2 : IntKind.u8.max = 255 := by rfl
  simp [Lit.wf, e1, e2] at hw
  refine ⟨UInt8.ofNat n.toNat, ?_⟩
  have : (UInt8.ofNat n.toNat).toNat = n.toNat := by simp; omega
  rw [this, Int.toNat_of_nonneg hw.1]
theorem trodAll_four {P : Program} {w : World} {base : Nat} {spare : Nat → Bool} {held : Bool} {t t' t2 t3 : TypeId} {args : Array Value} {ds : List (DataW H)} {ps : List MemPlace} (h : DataW.TrodAll enc P w base spare held [t, t', t2, t3] args.toList ds ps) :
    ∃ v v' v2 v3 d d' d2 d3 p p' p2 p3, args = #[v, v', v2, v3] ∧ ds = [d, d', d2, d3] ∧ ps = p ++ (p' ++ (p2 ++ p3)) ∧ DataW.Trod enc P w base spare held t v d p ∧ DataW.Trod enc P w base spare held t' v' d' p' ∧ DataW.Trod enc P w base spare held t2 v2 d2 p2 ∧ DataW.Trod enc P w base spare held t3 v3 d3 p3 := by
  obtain ⟨v, vs, d, ds', p, q, hargs, rfl, rfl, hd, hrest⟩ := trodAll_cons h
  obtain ⟨v', vs', d', ds'', p', q', rfl, rfl, rfl, hd', hrest'⟩ := trodAll_cons hrest
  obtain ⟨v2, vs2, d2, ds2, p2, q2, rfl, rfl, rfl, hd2, hrest2⟩ := trodAll_cons hrest'
  obtain ⟨v3, vs3, d3, ds3, p3, q3, rfl, rfl, rfl, hd3, hrest3⟩ := trodAll_cons hrest2
  obtain ⟨rfl, rfl, rfl⟩ := trodAll_nil hrest3
  exact ⟨v, v', v2, v3, d, d', d2, d3, p, p', p2, p3, by cases args; simp_all, rfl, by simp, hd, hd', hd2, hd3⟩
end

end Go.Proofs.YtbbdmmhpbeleoaaDoor
