/- 'CorePlays' returns true whatever the input, and what came in reads as it did. -/
import Derived.Test.YtpppoajnbhipeaaQ40
namespace Go.Proofs.Ytpppoajnbhipeaa
open Go Go.RowKit Go.WideShapes Go.ChangeShapes Go.Deep

section
variable {H : Type} {enc : TypeId × Value → H}
theorem trodAll_five {P : Program} {w : World} {base : Nat} {spare : Nat → Bool} {held : Bool} {t t1 t2 t3 t4 : TypeId} {args : Array Value} {ds : List (DataW H)} {ps : List MemPlace} (h : DataW.TrodAll enc P w base spare held [t, t1, t2, t3, t4] args.toList ds ps) :
    ∃ v v1 v2 v3 v4 d d1 d2 d3 d4 p p1 p2 p3 p4, args = #[v, v1, v2, v3, v4] ∧ DataW.Trod enc P w base spare held t v d p ∧ DataW.Trod enc P w base spare held t1 v1 d1 p1 ∧ DataW.Trod enc P w base spare held t2 v2 d2 p2 ∧ DataW.Trod enc P w base spare held t3 v3 d3 p3 ∧ DataW.Trod enc P w base spare held t4 v4 d4 p4 := by
  obtain ⟨v, vs, d, ds', p, q, hargs, rfl, rfl, hd, hrest⟩ := trodAll_cons h
  obtain ⟨v1, vs1, d1, ds1, p1, q1, rfl, rfl, rfl, hd1, hr1⟩ := trodAll_cons hrest
  obtain ⟨v2, vs2, d2, ds2, p2, q2, rfl, rfl, rfl, hd2, hr2⟩ := trodAll_cons hr1
  obtain ⟨v3, vs3, d3, ds3, p3, q3, rfl, rfl, rfl, hd3, hr3⟩ := trodAll_cons hr2
  obtain ⟨v4, vs4, d4, ds4, p4, q4, rfl, rfl, rfl, hd4, hr4⟩ := trodAll_cons hr3
  obtain ⟨rfl, rfl, rfl⟩ := trodAll_nil hr4
  exact ⟨v, v1, v2, v3, v4, d, d1, d2, d3, d4, p, p1, p2, p3, p4, by cases args; simp_all, hd, hd1, hd2, hd3, hd4⟩
end

set_option maxRecDepth 100000 in
theorem corePlays_lifted (os : Os) (started : os.Started) (H : Type) (enc : TypeId × Value → H) :
    ReturnsInHanded {} Try.checked os 11 .any (Rows.corePlaysSpec.pre6 enc Try.prog Try.f11 Rows.corePlaysRow.domain false) (Rows.corePlaysSpec.post enc Try.prog Try.f11 false true false false) := by
  refine law_lifted os started H enc (by kernel_rfl) Try.func11 rfl rfl (by kernel_rfl) (fun ds hl => ?_) (ChangeSpec.witness6 (enc := enc) (C := Try.checked) false ⟨#[], #[.int .i64 0, .int .i64 0, .slice none 0 0, .slice none 0 0, .slice none 0 0], []⟩ 8 (by kernel_rfl) (by kernel_rfl) (by kernel_rfl) (by kernel_rfl)) ?_
  · match ds, hl with
    | [_, _, _, _, _], _ => rfl
  · intro W base args ds p hval hA hlt
    rw [Try.params11] at hA hval
    obtain ⟨v0, v1, v2, v3, v4, d0, d1, d2, d3, d4, p0, p1, p2, p3, p4, rfl, h0, h1, h2, h3, h4⟩ := trodAll_five hA
    obtain ⟨z1, rfl, rfl, rfl, wz1⟩ := open_int Try.underlying3 (hval 0 3 v0 rfl rfl) h0
    obtain ⟨z2, rfl, rfl, rfl, wz2⟩ := open_int Try.underlying3 (hval 1 3 v1 rfl rfl) h1
    obtain ⟨a1, len1, cap1, rfl⟩ := okWide_slice Try.underlying50 (hval 2 50 v2 rfl rfl)
    obtain ⟨a2, len2, cap2, rfl⟩ := okWide_slice Try.underlying35 (hval 3 35 v3 rfl rfl)
    obtain ⟨a3, len3, cap3, rfl⟩ := okWide_slice Try.underlying73 (hval 4 73 v4 rfl rfl)
    obtain ⟨ts, rfl, ht, _⟩ := open_list_arg intL IntW Try.underlying50 (by kernel_rfl) (fun fu cs x h hl => open_int1 W fu cs x h hl) h2
    obtain ⟨l, rfl, hl, _⟩ := open_list_arg entL EntW Try.underlying35 (by kernel_rfl) (fun fu cs x h hl => open_ent W fu cs x h hl) h3
    obtain ⟨ops, rfl, ho, how⟩ := open_list_arg opL OpW Try.underlying73 (by kernel_rfl) (fun fu cs x h hl => open_op W fu cs x h hl) h4
    exact plays_walk z1 z2 _ ts l ops a1 a2 a3 cap1 cap2 cap3 _ W wz1 rfl ht hl ho how

theorem corePlays_holds : Rows.CorePlaysSaid :=
  OpenClaim.holds_of_wide 11 Try.f11 rfl rfl rfl rfl rfl rfl rfl ⟨rfl, rfl, rfl, rfl, rfl⟩ rfl rfl rfl rfl rfl (by kernel_rfl) Try.func11 (by kernel_rfl) (of_decide_eq_true (by kernel_rfl))
    (by unfold Func.isWrapper; rw [if_neg (of_decide_eq_false (by kernel_rfl))]; exact ⟨rfl, rfl⟩) (fun os started H enc _ => corePlays_lifted os started H enc)

end Go.Proofs.Ytpppoajnbhipeaa
