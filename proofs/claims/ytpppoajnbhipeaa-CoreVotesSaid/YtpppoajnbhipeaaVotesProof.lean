/- 'CoreVotes' returns true whatever the input, and what came in reads as it did. -/
import Derived.Test.YtpppoajnbhipeaaVotesH
import Derived.Test.YtpppoajnbhipeaaLaw
namespace Go.Proofs.Ytpppoajnbhipeaa
open Go Go.RowKit Go.WideShapes Go.ChangeShapes Go.Deep

section
variable {H : Type} {enc : TypeId × Value → H}
theorem trodAll_three' {P : Program} {w : World} {base : Nat} {spare : Nat → Bool} {held : Bool} {t t1 t2 : TypeId} {args : Array Value} {ds : List (DataW H)} {ps : List MemPlace} (h : DataW.TrodAll enc P w base spare held [t, t1, t2] args.toList ds ps) :
    ∃ v v1 v2 d d1 d2 p p1 p2, args = #[v, v1, v2] ∧ DataW.Trod enc P w base spare held t v d p ∧ DataW.Trod enc P w base spare held t1 v1 d1 p1 ∧ DataW.Trod enc P w base spare held t2 v2 d2 p2 := by
  obtain ⟨v, vs, d, ds', p, q, hargs, rfl, rfl, hd, hrest⟩ := trodAll_cons h
  obtain ⟨v1, vs1, d1, ds1, p1, q1, rfl, rfl, rfl, hd1, hr1⟩ := trodAll_cons hrest
  obtain ⟨v2, vs2, d2, ds2, p2, q2, rfl, rfl, rfl, hd2, hr2⟩ := trodAll_cons hr1
  obtain ⟨rfl, rfl, rfl⟩ := trodAll_nil hr2
  exact ⟨v, v1, v2, d, d1, d2, p, p1, p2, by cases args; simp_all, hd, hd1, hd2⟩
end

theorem votes_any (nodes : Int) (l : List Ent) (asks : List MsgD) (a0 a1 : Option Addr) (c0 c1 : Nat) (P : Nat → Prop) (w : World) (wn : (Lit.int .i64 nodes).wf = true) (hl : ListAt entL w P (.slice a0 l.length c0) l) (ha : ListAt msgL w P (.slice a1 asks.length c1) asks) (hm : ∀ m ∈ asks, MsgW m) :
    Calls Try.prog 4 #[.int .i64 nodes, .slice a0 l.length c0, .slice a1 asks.length c1] w fun e w' => e = .returned (.bool true) ∧ Below w.heap.size w w' := by
  cases hs : smallD { msg0 with entries := l } with
  | false => exact votes_big nodes l _ a0 c0 P w hl hs
  | true => exact votes_walk nodes l asks a0 a1 c0 c1 P w wn hl ha hm hs

set_option maxRecDepth 100000 in
theorem coreVotes_lifted (os : Os) (started : os.Started) (H : Type) (enc : TypeId × Value → H) :
    ReturnsInHanded {} Try.checked os 4 .any (Rows.coreVotesSpec.pre6 enc Try.prog Try.f4 Rows.coreVotesRow.domain false) (Rows.coreVotesSpec.post enc Try.prog Try.f4 false true false false) := by
  refine law_lifted os started H enc (by kernel_rfl) Try.func4 rfl rfl (by kernel_rfl) (fun ds hl => ?_) (ChangeSpec.witness6 (enc := enc) (C := Try.checked) false ⟨#[], #[.int .i64 0, .slice none 0 0, .slice none 0 0], []⟩ 8 (by kernel_rfl) (by kernel_rfl) (by kernel_rfl) (by kernel_rfl)) ?_
  · match ds, hl with
    | [_, _, _], _ => rfl
  · intro W base args ds p hval hA hlt
    rw [Try.params4] at hA hval
    obtain ⟨v0, v1, v2, d0, d1, d2, p0, p1, p2, rfl, h0, h1, h2⟩ := trodAll_three' hA
    obtain ⟨z, rfl, rfl, rfl, wz⟩ := open_int Try.underlying3 (hval 0 3 v0 rfl rfl) h0
    obtain ⟨a1, len1, cap1, rfl⟩ := okWide_slice Try.underlying35 (hval 1 35 v1 rfl rfl)
    obtain ⟨a2, len2, cap2, rfl⟩ := okWide_slice Try.underlying36 (hval 2 36 v2 rfl rfl)
    obtain ⟨l, rfl, hl, _⟩ := open_list_arg entL EntW Try.underlying35 (by kernel_rfl) (fun fu cs x h hl => open_ent W fu cs x h hl) h1
    obtain ⟨ms, rfl, hms, hw⟩ := open_list_arg msgL MsgW Try.underlying36 (by kernel_rfl) (fun fu cs x h hl => open_msg W fu cs x h hl) h2
    exact votes_any z l ms a1 a2 cap1 cap2 _ W wz hl hms hw

theorem coreVotes_holds : Rows.CoreVotesSaid :=
  OpenClaim.holds_of_wide 4 Try.f4 rfl rfl rfl rfl rfl rfl rfl ⟨rfl, rfl, rfl, rfl, rfl⟩ rfl rfl rfl rfl rfl (by kernel_rfl) Try.func4 (by kernel_rfl) (of_decide_eq_true (by kernel_rfl))
    (by unfold Func.isWrapper; rw [if_neg (of_decide_eq_false (by kernel_rfl))]; exact ⟨rfl, rfl⟩) (fun os started H enc _ => coreVotes_lifted os started H enc)

end Go.Proofs.Ytpppoajnbhipeaa
