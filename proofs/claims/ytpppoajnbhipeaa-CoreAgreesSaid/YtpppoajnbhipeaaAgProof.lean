/- 'CoreAgrees' returns true whatever the input, and what came in reads as it did. -/
import Derived.Test.YtpppoajnbhipeaaAgA
import Derived.Test.YtpppoajnbhipeaaLaw
namespace Go.Proofs.Ytpppoajnbhipeaa
open Go Go.RowKit Go.WideShapes Go.ChangeShapes Go.Deep

section
variable {H : Type} {enc : TypeId × Value → H}
theorem trodAll_four' {P : Program} {w : World} {base : Nat} {spare : Nat → Bool} {held : Bool} {t t1 t2 t3 : TypeId} {args : Array Value} {ds : List (DataW H)} {ps : List MemPlace} (h : DataW.TrodAll enc P w base spare held [t, t1, t2, t3] args.toList ds ps) :
    ∃ v v1 v2 v3 d d1 d2 d3 p p1 p2 p3, args = #[v, v1, v2, v3] ∧ DataW.Trod enc P w base spare held t v d p ∧ DataW.Trod enc P w base spare held t1 v1 d1 p1 ∧ DataW.Trod enc P w base spare held t2 v2 d2 p2 ∧ DataW.Trod enc P w base spare held t3 v3 d3 p3 := by
  obtain ⟨v, vs, d, ds', p, q, hargs, rfl, rfl, hd, hrest⟩ := trodAll_cons h
  obtain ⟨v1, vs1, d1, ds1, p1, q1, rfl, rfl, rfl, hd1, hr1⟩ := trodAll_cons hrest
  obtain ⟨v2, vs2, d2, ds2, p2, q2, rfl, rfl, rfl, hd2, hr2⟩ := trodAll_cons hr1
  obtain ⟨v3, vs3, d3, ds3, p3, q3, rfl, rfl, rfl, hd3, hr3⟩ := trodAll_cons hr2
  obtain ⟨rfl, rfl, rfl⟩ := trodAll_nil hr3
  exact ⟨v, v1, v2, v3, d, d1, d2, d3, p, p1, p2, p3, by cases args; simp_all, hd, hd1, hd2, hd3⟩
end

theorem agrees_law (nodes elder asks : Int) (ms : List MsgD) (a1 : Option Addr) (c1 : Nat) (P : Nat → Prop) (w : World) (wn : (Lit.int .i64 nodes).wf = true) (we : (Lit.int .i64 elder).wf = true) (wa : (Lit.int .i64 asks).wf = true)
    (hm : ListAt msgL w P (.slice a1 ms.length c1) ms) (hmw : ∀ m ∈ ms, MsgW m) :
    Calls Try.prog 8 #[.int .i64 nodes, .int .i64 elder, .int .i64 asks, .slice a1 ms.length c1] w fun e w' => e = .returned (.bool true) ∧ Below w.heap.size w w' := by
  have h1 := placeOf_bd elder 5 (by omega)
  have h2 := placeOf_bd asks 5 (by omega)
  exact agrees_walk nodes elder asks _ (placeOf elder 5).toNat (placeOf asks 5).toNat ms a1 c1 P w wn we wa rfl (by omega) (by omega) hm hmw

set_option maxRecDepth 100000 in
theorem coreAgrees_lifted (os : Os) (started : os.Started) (H : Type) (enc : TypeId × Value → H) :
    ReturnsInHanded {} Try.checked os 8 .any (Rows.coreAgreesSpec.pre6 enc Try.prog Try.f8 Rows.coreAgreesRow.domain false) (Rows.coreAgreesSpec.post enc Try.prog Try.f8 false true false false) := by
  refine law_lifted os started H enc (by kernel_rfl) Try.func8 rfl rfl (by kernel_rfl) (fun ds hl => ?_) (ChangeSpec.witness6 (enc := enc) (C := Try.checked) false ⟨#[], #[.int .i64 0, .int .i64 0, .int .i64 0, .slice none 0 0], []⟩ 8 (by kernel_rfl) (by kernel_rfl) (by kernel_rfl) (by kernel_rfl)) ?_
  · match ds, hl with
    | [_, _, _, _], _ => rfl
  · intro W base args ds p hval hA hlt
    rw [Try.params8] at hA hval
    obtain ⟨v0, v1, v2, v3, d0, d1, d2, d3, p0, p1, p2, p3, rfl, h0, h1, h2, h3⟩ := trodAll_four' hA
    obtain ⟨z1, rfl, rfl, rfl, wz1⟩ := open_int Try.underlying3 (hval 0 3 v0 rfl rfl) h0
    obtain ⟨z2, rfl, rfl, rfl, wz2⟩ := open_int Try.underlying3 (hval 1 3 v1 rfl rfl) h1
    obtain ⟨z3, rfl, rfl, rfl, wz3⟩ := open_int Try.underlying3 (hval 2 3 v2 rfl rfl) h2
    obtain ⟨a1, len1, cap1, rfl⟩ := okWide_slice Try.underlying36 (hval 3 36 v3 rfl rfl)
    obtain ⟨ms, rfl, hms, hmw⟩ := open_list_arg msgL MsgW Try.underlying36 (by kernel_rfl) (fun fu cs x h hl => open_msg W fu cs x h hl) h3
    exact agrees_law z1 z2 z3 ms a1 cap1 _ W wz1 wz2 wz3 hms hmw

theorem coreAgrees_holds : Rows.CoreAgreesSaid :=
  OpenClaim.holds_of_wide 8 Try.f8 rfl rfl rfl rfl rfl rfl rfl ⟨rfl, rfl, rfl, rfl, rfl⟩ rfl rfl rfl rfl rfl (by kernel_rfl) Try.func8 (by kernel_rfl) (of_decide_eq_true (by kernel_rfl))
    (by unfold Func.isWrapper; rw [if_neg (of_decide_eq_false (by kernel_rfl))]; exact ⟨rfl, rfl⟩) (fun os started H enc _ => coreAgrees_lifted os started H enc)

end Go.Proofs.Ytpppoajnbhipeaa
