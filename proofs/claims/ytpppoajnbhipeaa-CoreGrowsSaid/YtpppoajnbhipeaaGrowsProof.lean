/- 'CoreGrows' returns true whatever the input, and what came in reads as it did. -/
import Derived.Test.YtpppoajnbhipeaaGrowsH
import Derived.Test.YtpppoajnbhipeaaLaw
namespace Go.Proofs.Ytpppoajnbhipeaa
open Go Go.RowKit Go.WideShapes Go.ChangeShapes Go.Deep

section
variable {H : Type} {enc : TypeId × Value → H}
theorem trodAll_four' {P : Program} {w : World} {base : Nat} {spare : Nat → Bool} {held : Bool} {t t1 t2 t3 : TypeId} {args : Array Value} {ds : List (DataW H)} {ps : List MemPlace} (h : DataW.TrodAll enc P w base spare held [t, t1, t2, t3] args.toList ds ps) :
    ∃ v v1 v2 v3 d d1 d2 d3 p p1 p2 p3, args = #[v, v1, v2, v3] ∧ DataW.Trod enc P w base spare held t v d p ∧ DataW.Trod enc P w base spare held t1 v1 d1 p1 ∧ DataW.Trod enc P w base spare held t2 v2 d2 p2 ∧ DataW.Trod enc P w base spare held t3 v3 d3 p3 := by
  obtain ⟨v, vs, d, ds', p, q, hargs, rfl, rfl, hd, hrest⟩ := trodAll_cons h
  obtain ⟨v1, vs1, d1, ds1, p1, q1, rfl, rfl, rfl, hd1, hr1⟩ := trodAll_cons hrest
  obtain ⟨v2, vs2, d2, ds2, p2, q2, rfl, rfl, rfl, hd2, hr2⟩ := trodAll_cons hr1
  obtain ⟨v3, vs3, d3, ds3, p3, q3, rfl, rfl, rfl, hd3, hr3⟩ := trodAll_cons hr2
  obtain ⟨rfl, rfl, rfl⟩ := trodAll_nil hr3
  exact ⟨v, v1, v2, v3, d, d1, d2, d3, p, p1, p2, p3, by cases args; simp_all, hd, hd1, hd2, hd3⟩
end

theorem grows_any (nodes base : Int) (l : List Ent) (ops : List OpD) (a0 a1 : Option Addr) (c0 c1 : Nat) (P : Nat → Prop) (w : World) (wn : (Lit.int .i64 nodes).wf = true) (wb : (Lit.int .i64 base).wf = true) (hl : ListAt entL w P (.slice a0 l.length c0) l) (ho : ListAt opL w P (.slice a1 ops.length c1) ops) (how : ∀ o ∈ ops, OpW o) :
    Calls Try.prog 10 #[.int .i64 nodes, .slice a0 l.length c0, .int .i64 base, .slice a1 ops.length c1] w fun e w' => e = .returned (.bool true) ∧ Below w.heap.size w w' := by
  cases hs : smallD { msg0 with entries := l } with
  | false => exact grows_big nodes base l _ a0 c0 P w hl hs
  | true => exact grows_walk nodes base _ _ l ops a0 a1 c0 c1 P w wn wb rfl rfl hl ho how hs

set_option maxRecDepth 100000 in
theorem coreGrows_lifted (os : Os) (started : os.Started) (H : Type) (enc : TypeId × Value → H) :
    ReturnsInHanded {} Try.checked os 10 .any (Rows.coreGrowsSpec.pre6 enc Try.prog Try.f10 Rows.coreGrowsRow.domain false) (Rows.coreGrowsSpec.post enc Try.prog Try.f10 false true false false) := by
  refine law_lifted os started H enc (by kernel_rfl) Try.func10 rfl rfl (by kernel_rfl) (fun ds hl => ?_) (ChangeSpec.witness6 (enc := enc) (C := Try.checked) false ⟨#[], #[.int .i64 0, .slice none 0 0, .int .i64 0, .slice none 0 0], []⟩ 8 (by kernel_rfl) (by kernel_rfl) (by kernel_rfl) (by kernel_rfl)) ?_
  · match ds, hl with
    | [_, _, _, _], _ => rfl
  · intro W base args ds p hval hA hlt
    rw [Try.params10] at hA hval
    obtain ⟨v0, v1, v2, v3, d0, d1, d2, d3, p0, p1, p2, p3, rfl, h0, h1, h2, h3⟩ := trodAll_four' hA
    obtain ⟨z1, rfl, rfl, rfl, wz1⟩ := open_int Try.underlying3 (hval 0 3 v0 rfl rfl) h0
    obtain ⟨a1, len1, cap1, rfl⟩ := okWide_slice Try.underlying35 (hval 1 35 v1 rfl rfl)
    obtain ⟨z2, rfl, rfl, rfl, wz2⟩ := open_int Try.underlying3 (hval 2 3 v2 rfl rfl) h2
    obtain ⟨a2, len2, cap2, rfl⟩ := okWide_slice Try.underlying73 (hval 3 73 v3 rfl rfl)
    obtain ⟨l, rfl, hl, _⟩ := open_list_arg entL EntW Try.underlying35 (by kernel_rfl) (fun fu cs x h hl => open_ent W fu cs x h hl) h1
    obtain ⟨ops, rfl, ho, how⟩ := open_list_arg opL OpW Try.underlying73 (by kernel_rfl) (fun fu cs x h hl => open_op W fu cs x h hl) h3
    exact grows_any z1 z2 l ops a1 a2 cap1 cap2 _ W wz1 wz2 hl ho how

theorem coreGrows_holds : Rows.CoreGrowsSaid :=
  OpenClaim.holds_of_wide 10 Try.f10 rfl rfl rfl rfl rfl rfl rfl ⟨rfl, rfl, rfl, rfl, rfl⟩ rfl rfl rfl rfl rfl (by kernel_rfl) Try.func10 (by kernel_rfl) (of_decide_eq_true (by kernel_rfl))
    (by unfold Func.isWrapper; rw [if_neg (of_decide_eq_false (by kernel_rfl))]; exact ⟨rfl, rfl⟩) (fun os started H enc _ => coreGrows_lifted os started H enc)

end Go.Proofs.Ytpppoajnbhipeaa
