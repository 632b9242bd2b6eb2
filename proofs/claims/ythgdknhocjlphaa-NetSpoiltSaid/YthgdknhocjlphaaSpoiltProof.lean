/- 'NetSpoilt' returns true whatever the input, and what came in reads as it did. -/
import Derived.Test.YthgdknhocjlphaaNetT
import Derived.Test.YthgdknhocjlphaaLaw
import Derived.Test.YthgdknhocjlphaaOpen
namespace Go.Proofs.Ythgdknhocjlphaa
open Go Go.RowKit Go.WideShapes Go.ChangeShapes Go.Deep

theorem placeOf_256 (v : Int) : placeOf v 256 = v % 256 := by
  have h := Int.tmod_def v 256
  have a1 : v.tmod 256 < 256 := Int.tmod_lt_of_pos v (by omega)
  have a2 : -256 < v.tmod 256 := by have := Int.lt_tmod_of_pos v (show (0 : Int) < 256 by omega); omega
  unfold placeOf
  generalize v.tdiv 256 = q at h
  generalize v.tmod 256 = r at h a1 a2
  split <;> omega

theorem Spoilt_any (bs : List UInt8) (at_ by_ again : Int) (a : Option Addr) (c : Nat) (w : World) (hr : Reads w 1 (.slice a bs.length c) bs.length (u8s bs)) (hb : ∀ k ∈ ownB (.slice a bs.length c), bs.length ≠ 0 → k < w.heap.size) (wa : (Lit.int .i64 at_).wf = true) (wb : (Lit.int .i64 by_).wf = true) :
    Calls Try.prog 4 #[.slice a bs.length c, .int .i64 at_, .int .i64 by_, .int .i64 again] w fun e w' => e = .returned (.bool true) ∧ Below w.heap.size w w' := by
  by_cases hl : 1 ≤ bs.length ∧ bs.length ≤ 500
  · obtain ⟨h1, h500⟩ := hl
    obtain ⟨p0, p1⟩ := placeOf_bd at_ bs.length (by omega)
    have hx := placeOf_256 by_
    have hw : IntKind.u8.wrap (by_ % 256) = by_ % 256 := by rw [IntKind.wrap_u8]; omega
    by_cases h0 : by_ % 256 = 0
    · refine spoilt_walk false (by_ % 256) _ (bs, false) bs at_ by_ again a c w hr hb wa wb h1 h500 hx hw rfl (by simpa using h0) (by simp [SpoilS, h0]) (by simp [SpoilS]) rfl (fun _ _ _ h => h) (fun i u _ h => ⟨u, h, ?_⟩)
      rw [xor_mod, (byteOf_zero by_).2 h0]
      simp
    · refine spoilt_walk true (by_ % 256) _ (spoilB bs at_ by_, true) bs at_ by_ again a c w hr hb wa wb h1 h500 hx hw rfl (by simpa using h0) (by simp [SpoilS, h0]) (by simp [SpoilS]) (by simp) (fun i u hi h => ?_) (fun i u hi h => ⟨u ^^^ byteOf by_, ?_, xor_mod u by_⟩)
      · simp only [spoilB]
        rw [List.getElem?_set_ne (by omega), h]
      · have e : (placeOf at_ bs.length).toNat = i := by omega
        have hlt : i < bs.length := (List.getElem?_eq_some_iff.1 h).1
        simp only [spoilB, e]
        rw [List.getElem?_set_self hlt, List.getD, h]
        rfl
  · clear hr hb
    have hd : bs.length < 1 ∨ 500 < bs.length := by omega
    rcases hd with hd | hd
    all_goals
      go_enter Try.func4, Try.ntmps4
      go_wp2_with fail
      refine (awake_any _).mono ?_
      rintro e w9 ⟨rfl, k9⟩
      go_wp2_with fail
      go_ret
      exact ⟨rfl, k9.below (Nat.le_refl _) (fun _ h => by cases h)⟩

section
variable {H : Type} {enc : TypeId × Value → H}
/-- A SLICE OF BYTES that comes in. -/
theorem open_bytes_arg {w : World} {a : Option Addr} {len cap : Nat} {d : DataW H} {ps : List MemPlace} (h : DataW.Trod enc Try.prog w 0 (fun _ => true) true 26 (.slice a len cap) d ps) :
    ∃ bs : List UInt8, bs.length = len ∧ Reads w 1 (.slice a bs.length cap) bs.length (u8s bs) ∧ ∀ k ∈ ownB (.slice a bs.length cap), bs.length ≠ 0 → k < w.heap.size := by
  obtain ⟨fuel, h⟩ := h
  obtain ⟨a', c', bs, e, hr, hb⟩ := open_bytes h
  simp [Value.cells] at e
  obtain ⟨rfl, rfl, rfl⟩ := e
  exact ⟨bs, rfl, hr, hb⟩

theorem trodAll_four {P : Program} {w : World} {base : Nat} {spare : Nat → Bool} {held : Bool} {t t' t2 t3 : TypeId} {args : Array Value} {ds : List (DataW H)} {ps : List MemPlace} (h : DataW.TrodAll enc P w base spare held [t, t', t2, t3] args.toList ds ps) :
    ∃ v v' v2 v3 d d' d2 d3 p p' p2 p3, args = #[v, v', v2, v3] ∧ ds = [d, d', d2, d3] ∧ ps = p ++ (p' ++ (p2 ++ p3)) ∧ DataW.Trod enc P w base spare held t v d p ∧ DataW.Trod enc P w base spare held t' v' d' p' ∧ DataW.Trod enc P w base spare held t2 v2 d2 p2 ∧ DataW.Trod enc P w base spare held t3 v3 d3 p3 := by
  obtain ⟨v, vs, d, ds', p, q, hargs, rfl, rfl, hd, hrest⟩ := trodAll_cons h
  obtain ⟨v', vs', d', ds'', p', q', rfl, rfl, rfl, hd', hrest'⟩ := trodAll_cons hrest
  obtain ⟨v2, vs2, d2, ds2, p2, q2, rfl, rfl, rfl, hd2, hrest2⟩ := trodAll_cons hrest'
  obtain ⟨v3, vs3, d3, ds3, p3, q3, rfl, rfl, rfl, hd3, hrest3⟩ := trodAll_cons hrest2
  obtain ⟨rfl, rfl, rfl⟩ := trodAll_nil hrest3
  exact ⟨v, v', v2, v3, d, d', d2, d3, p, p', p2, p3, by cases args; simp_all, rfl, by simp, hd, hd', hd2, hd3⟩
end

set_option maxRecDepth 100000 in
theorem netSpoilt_lifted (os : Os) (started : os.Started) (H : Type) (enc : TypeId × Value → H) :
    ReturnsInHanded {} Try.checked os 4 .any (Rows.netSpoiltSpec.pre6 enc Try.prog Try.f4 Rows.netSpoiltRow.domain false) (Rows.netSpoiltSpec.post enc Try.prog Try.f4 false true false false) := by
  refine law_lifted os started H enc (by kernel_rfl) Try.func4 rfl rfl (by kernel_rfl) (fun ds hl => ?_) (ChangeSpec.witness6 (enc := enc) (C := Try.checked) false ⟨#[], #[.slice none 0 0, .int .i64 0, .int .i64 0, .int .i64 0], []⟩ 8 (by kernel_rfl) (by kernel_rfl) (by kernel_rfl) (by kernel_rfl)) ?_
  · match ds, hl with
    | [_, _, _, _], _ => rfl
  · intro W base args ds p hval hA hlt
    rw [Try.params4] at hA hval
    obtain ⟨v0, v1, v2, v3, d0, d1, d2, d3, p0, p1, p2, p3, rfl, rfl, rfl, h0, h1, h2, h3⟩ := trodAll_four hA
    obtain ⟨z, rfl, rfl, rfl, wz⟩ := open_int Try.underlying3 (hval 1 3 v1 rfl rfl) h1
    obtain ⟨z2, rfl, rfl, rfl, wz2⟩ := open_int Try.underlying3 (hval 2 3 v2 rfl rfl) h2
    obtain ⟨z3, rfl, rfl, rfl, wz3⟩ := open_int Try.underlying3 (hval 3 3 v3 rfl rfl) h3
    obtain ⟨a, len, cap, rfl⟩ := okWide_slice Try.underlying26 (hval 0 26 v0 rfl rfl)
    obtain ⟨bs, rfl, hr, hb⟩ := open_bytes_arg h0
    exact Spoilt_any bs z z2 z3 a cap W hr hb wz wz2

theorem netSpoilt_holds : Rows.NetSpoiltSaid :=
  OpenClaim.holds_of_wide 4 Try.f4 rfl rfl rfl rfl rfl rfl rfl ⟨rfl, rfl, rfl, rfl, rfl⟩ rfl rfl rfl rfl rfl (by kernel_rfl) Try.func4 (by kernel_rfl) (of_decide_eq_true (by kernel_rfl))
    (by unfold Func.isWrapper; rw [if_neg (of_decide_eq_false (by kernel_rfl))]; exact ⟨rfl, rfl⟩) (fun os started H enc _ => netSpoilt_lifted os started H enc)

end Go.Proofs.Ythgdknhocjlphaa
