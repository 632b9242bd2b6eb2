/- From and New of the document's core. -/
import Derived.Test.YtpppoajnbhipeaaCoreR
import Derived.Test.YtpppoajnbhipeaaCoreO
namespace Go.Proofs.Ytpppoajnbhipeaa
open Go Go.RowKit

def RFromPost (l : List Ent) (P : Nat → Prop) (w : World) (e : Ending) (w' : World) : Prop := ∃ a k, e = .returned (.slice a l.length k) ∧ ListAt entL w' (fun b => P b ∨ w.heap.size ≤ b) (.slice a l.length k) l ∧ Keeps [] w w'
theorem RFromPost.nil {l : List Ent} {P : Nat → Prop} {w w' : World} (hl : l = []) (k : Keeps [] w w') : RFromPost l P w (.returned (.slice none 0 0)) w' := by
  subst hl
  exact ⟨none, 0, rfl, ListAt.nil _ _ _ _, k⟩
/-- A copy of a list: a row of its own, the elements' blocks the same. -/
theorem ListAt.copied {w w1 w' : World} {P : Nat → Prop} {v : Value} {l : List Ent} {css : List (List Value)} {n : Nat} (h : ElemsAt entL w P css l) (hn : n = l.length) (ho : w'.ownsRow w1.heap.size 59 3 v n css.flatten) (hz : w.heap.size ≤ w1.heap.size) (k : Keeps [] w w') : ListAt entL w' (fun b => P b ∨ w.heap.size ≤ b) v l := by
  subst hn
  exact ⟨css, (h.keep k (fun _ _ h => by cases h)).mono (fun b _ h => .inl h), Reads.ofOwn ho, fun _ b hb => .inr (Nat.le_trans hz (ownB_ge ho b hb).1)⟩

section
variable (w : World) (B n : Nat) (c : CoreD) (P : Nat → Prop) (lv sv : Value) (h : RefAt w B n c P lv sv)
include h

set_option maxRecDepth 100000 in
set_option maxHeartbeats 1600000 in
theorem rFrom_any (i : Int) (b1 : -4611686018427387904 ≤ i) (b2 : i ≤ 4611686018427387904) : Calls Try.prog 49 #[.pointer (some ⟨n, 0, none⟩), .int .i64 i] w (RFromPost (fromD c i) P w) := by
  obtain ⟨it, hi0, hz0, hz1, hz2⟩ := info_parts Try.infoEnt
  have h1 : w.cell? ⟨n, 15, none⟩ = some (.int .i64 c.base) := h.blk.cell 15
  have HL : Hid (Calls Try.prog 48 #[.pointer (some ⟨n, 0, none⟩)] w fun e w' => e = .returned (.int .i64 (lastD c)) ∧ ∃ k, w' = w.drewN k) := rLast_any _ B n c P lv sv h
  have o1 := h.ok.base.1
  have o2 := h.ok.last
  have o3 := h.ok.len
  obtain ⟨s, hs⟩ : ∃ s : Nat, max i (c.base + 1) = c.base + 1 + s := ⟨(max i (c.base + 1) - c.base - 1).toNat, by omega⟩
  have HF := hid (fromD_at hs)
  by_cases hgt : lastD c < c.base + 1 + s
  · have HE : Hid (fromD c i = []) := by
      show _ = _
      rw [HF.out]
      exact List.drop_eq_nil_of_le (by unfold lastD at hgt; omega)
    clear h
    rcases (show (i ≤ c.base ∧ lastD c < c.base + 1) ∨ (c.base < i ∧ lastD c < i) by omega) with ⟨hm, hg⟩ | ⟨hm, hg⟩
    all_goals
      clear hs hgt
      go_enter Try.func49, Try.ntmps49
      go_wp2_with (go_at_call 48; go_must (refine HL.out.mono ?_; rintro e w' ⟨rfl, kd, rfl⟩))
      all_goals
        go_ret
        exact RFromPost.nil HE.out ((Keeps.refl _ _).drewN _)
  · have hsl : s < c.l.length := by unfold lastD at hgt; omega
    obtain ⟨e0, he0⟩ : ∃ e, c.l[s]? = some e := ⟨c.l[s], List.getElem?_eq_getElem hsl⟩
    obtain ⟨g, off, cap, _, _, hf, hcl, hcm, ec, _⟩ := h.log.ent he0
    have hgl : g < w.heap.size := World.block_lt_of_cell? _ _ ec
    have h2 : w.cell? ⟨n, 18, none⟩ = some (.slice (some ⟨g, off, none⟩) c.l.length cap) := (h.blk.cell 18).trans (by rw [hf]; rfl)
    have HP : Hid (ListAt entL w P (.slice (some ⟨g, off + s * 3, none⟩) (c.l.length - s) (cap - s)) (c.l.drop s)) := by
      have h3 := h.log
      rw [hf] at h3
      have := h3.piece s (c.l.length - s) (cap - s) (some ⟨g, off + s * 3, none⟩) (by omega) (by omega) (by omega) (fun _ => rfl)
      rwa [List.take_of_length_le (by simp)] at this
    obtain ⟨css, hel, hrd, _⟩ := HP.out
    have HEL := hid hel
    have HLN : Hid ((c.l.drop s).length = c.l.length - s) := by show _ = _; simp
    rw [HLN.out] at hrd
    have HRD := hid hrd
    clear HP hel hrd
    have HON : Hid (∀ u ∈ css.flatten, u.oneCell' = true) := HEL.out.one
    have s0 : (0 : Int) ≤ (s : Int) := Int.natCast_nonneg _
    have s1 : (s : Int) ≤ (c.l.length : Int) := by omega
    have s2 : (s : Int) ≤ (cap : Int) := by omega
    have sc : ¬ cap = s := by omega
    have sc1 : s ≤ cap := by omega
    have sc2 : s ≤ c.l.length := by omega
    have hc63 : (cap : Int) ≤ 9223372036854775807 := by unfold maxLen at hcm; omega
    clear h hf he0 ec hcm
    obtain ⟨x, hx⟩ : ∃ x, x = c.base + 1 + (s : Int) := ⟨_, rfl⟩
    have w1 : IntKind.i64.wrap (x - c.base) = x - c.base := IntWalk.i64_in _ (by omega)
    have w2 : IntKind.i64.wrap (x - c.base - 1) = (s : Int) := by rw [IntWalk.i64_in _ (by omega)]; omega
    have hle : x ≤ lastD c := by omega
    rcases (show (i ≤ c.base ∧ c.base + 1 = x) ∨ (c.base < i ∧ i = x) by omega) with ⟨hm1, hm2⟩ | ⟨hm1, hm2⟩
    rotate_left 1
    subst hm2
    all_goals
      clear hs hgt hx
      go_enter Try.func49, Try.ntmps49
      go_wp2_with (go_at_call 48; go_must (refine HL.out.mono ?_; rintro e w' ⟨rfl, kd, rfl⟩))
      refine Plan.wp_region_plan (fun w' => w'.cell? ⟨n, 15, none⟩ = some (.int .i64 c.base) ∧ w'.cell? ⟨n, 18, none⟩ = some (.slice (some ⟨g, off, none⟩) c.l.length cap)) 14 [(true, 0), (true, 1), (true, 2), (true, 3), (true, 4), (true, 5), (true, 6), (true, 7), (true, 8), (true, 9), (true, 10), (true, 11), (false, 12), (true, 13)] (by kernel_rfl) (by as_aux_lemma => kernel_rfl) (by kernel_rfl) (fun _ _ _ _ _ h => h) ?_ (fun hS => ?_)
      (· exact ⟨h1, h2⟩)
      simp only [Plan.pick, List.append_eq, List.cons_append, List.nil_append, List.getElem?_cons_zero, List.getElem?_cons_succ, Option.getD_some, List.drop_succ_cons, List.drop_zero]
      repeat (first | (refine Plan.take (v := ?_) (a' := ?_) (by rfl) ?_ ?_ ?_; rotate_left 2; (· (intro w' hS'; (try dsimp only at hS'); go_simp; try with_reducible rfl)); (· (simp only [Act.put, List.setIfInBounds_toArray, List.set_cons_zero, List.set_cons_succ]; try with_reducible rfl))) | (refine Plan.pass (a' := ?_) (by rfl) ?_ ?_; rotate_left 1; (· (simp only [Act.put, List.setIfInBounds_toArray, List.set_cons_zero, List.set_cons_succ]; try with_reducible rfl))))
      clear w1 w2
      refine Plan.step ?_
      go_wp2_with (at_builtin; go_must (refine wpList_append_copy _ rfl (.tmp 31) 35 rfl 59 it _ 3 40 Try.underlying35 hi0 hz0 hz1 hz2 rfl (by decide) (.slice (some ⟨g, off + s * 3, none⟩) (c.l.length - s) (cap - s)) (c.l.length - s) css.flatten rfl (by exact HRD.out) HON.out (by omega) (le_maxLen (by omega)) ?_; intro v' wz g1 g2; obtain ⟨a, q, hv⟩ := len_form g1; subst hv; have HO := hid g1; have HK := hid ((Keeps.refl [] w).grown g2 rfl rfl rfl rfl (fun _ h => by cases h)); clear g1 g2))
      refine ⟨⟨HK.out.cellSome h1 (by simp), HK.out.cellSome h2 (by simp)⟩, ?_⟩
      repeat (first | (refine Plan.take (v := ?_) (a' := ?_) (by rfl) ?_ ?_ ?_; rotate_left 2; (· (intro w' hS'; (try dsimp only at hS'); go_simp; try with_reducible rfl)); (· (simp only [Act.put, List.setIfInBounds_toArray, List.set_cons_zero, List.set_cons_succ]; try with_reducible rfl))) | (refine Plan.pass (a' := ?_) (by rfl) ?_ ?_; rotate_left 1; (· (simp only [Act.put, List.setIfInBounds_toArray, List.set_cons_zero, List.set_cons_succ]; try with_reducible rfl))))
      refine Plan.fin ?_
      go_wp2_with fail
      go_ret
      refine ⟨a, q, ?_, ?_, HK.out⟩
      (· rw [HF.out, HLN.out]; rfl)
      (· have := ListAt.copied HEL.out HLN.out.symm HO.out (Nat.le_refl _) HK.out
         rw [HF.out, HLN.out]
         exact this)
end

end Go.Proofs.Ytpppoajnbhipeaa
