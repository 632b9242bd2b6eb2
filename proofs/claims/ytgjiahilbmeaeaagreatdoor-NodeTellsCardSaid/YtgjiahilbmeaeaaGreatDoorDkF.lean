/- A disk: its names' map, ranged over; Used, walked. -/
import Derived.Test.YtgjiahilbmeaeaaGreatDoorR03
set_option maxRecDepth 100000
set_option maxHeartbeats 4000000
set_option linter.unusedSimpArgs false
set_option linter.unusedVariables false
namespace Go.Proofs.YtgjiahilbmeaeaaGreatDoor
open Go Go.RowKit
theorem wpList_next_fm {ops : Array Oper} {rest : List Oper} {o : Oper} {a : Act} {Q : Exit → Act → World → Prop} (w : World) (hg : o.guard = none) (it : Operand) (hop : o.op = Op.next it false) (b r n : Nat) (l : List (Nm × Value)) (left : Lit → Bool) (cnt : Nat)
 (hit : a.eval it = .pointer (some ⟨r, 0, none⟩)) (h : w.ranges Tryz.prog 9 heldR b r n (fmV l) left cnt)
 (hDone : cnt = 0 → (∀ kl, left kl = false) → wpList Tryz.prog ops Q rest (a.put o.dst (.tuple #[.bool false])) w)
 (hMore : ∀ (name : Nm) (v : Value) (w' : World) (cnt' : Nat), getA l name = some v → left (.string name) = true → w'.ranges Tryz.prog 9 heldR b r n (fmV l) (fun z => left z && !z.sameKey (.string name)) cnt' → cnt' < cnt →
  Keeps [r] w w' → w'.heap.size = w.heap.size → (Instr.entry (.pointer (some ⟨r, 0, none⟩))).run Tryz.prog w' = .ok (.tuple #[.string (str name), v]) w' → wpList Tryz.prog ops Q rest (a.put o.dst (.tuple #[.bool true, .string (str name), v])) w') :
 wpList Tryz.prog ops Q (o :: rest) a w := by
 refine wpList_next_ranges w hg it hop 9 nameKeyed heldR (fun s : List UInt8 => .string (str s)) (fun v : Value => v) (fun key kl hkey => ?_) (fun v y _ => ⟨v, rfl⟩) b r n (fmV l) left cnt hit h hDone ?_
 ·obtain ⟨s, rfl, _, _⟩ := Go.WideMaps.string_of_keyOf Tryz.underlying9 hkey
  exact ⟨s.data.toList, by simp [str]⟩
 ·intro name v kl y w' cnt' hkey hl hv hat hr hc hk hs he
  obtain ⟨s, hx, rfl, _⟩ := Go.WideMaps.string_of_keyOf Tryz.underlying9 hkey
  obtain ⟨x, hxe⟩ : ∃ x, s.data.toList = x := ⟨_, rfl⟩
  have hxn : x = name := by
   cases hx
   rw [← hxe]
   simp [str]
  rw [hxe] at hl hat hr
  subst hxn
  refine hMore x v w' cnt' ?_ hl hr hc (Keeps.ofGrown hk (fun k hk => by simp at hk; simp [hk])) hs he
  simp only [heldR, Option.some.injEq] at hv
  subst hv
  have h1 := hat (.held (.int .i64 0))
  have h2 := hat (.held (.int .i64 1))
  rw [fm_at] at h1 h2
  dsimp only at h1 h2
  cases hgx : getA l x with
  | none => rw [hgx] at h1 h2; simp at h1 h2; rw [← h1] at h2; simp at h2
  | some u => rw [hgx] at h1; simp at h1; rw [h1]
def metD (left : Lit → Bool) (L : List (Nm × (Nat × FileD))) : Nat := ((L.filter fun p => !left (.string p.1)).map fun p => p.2.2.b.length).sum
theorem metD_start (l : List (Nm × (Nat × FileD))) (D : Lit → Bool) (h : ∀ p ∈ l, D (.string p.1) = true) : metD D l = 0 := by
 unfold metD
 rw [List.filter_eq_nil_iff.2 (fun p hp => by simp [h p hp])]
 rfl
theorem metD_end (l : List (Nm × (Nat × FileD))) (D : Lit → Bool) (h : ∀ k, D k = false) : metD D l = (l.map fun p => p.2.2.b.length).sum := by
 unfold metD
 rw [List.filter_eq_self.2 (fun p _ => by simp [h])]
theorem metD_not (left : Lit → Bool) (name : Nm) : ∀ (L : List (Nm × (Nat × FileD))), (∀ p ∈ L, p.1 ≠ name) → metD (fun z => left z && !z.sameKey (.string name)) L = metD left L := fun L h => by
 unfold metD
 congr 2
 refine List.filter_congr fun p hp => ?_
 have : (Lit.string p.1).sameKey (Lit.string name) = false := by show (p.1 == name) = false; simpa using h p hp
 show (!(left (Lit.string p.1) && !(Lit.string p.1).sameKey (Lit.string name))) = _
 rw [this]
 simp
theorem metD_step (left : Lit → Bool) (name : Nm) (hl : left (.string name) = true) : ∀ (L : List (Nm × (Nat × FileD))) {x : Nat × FileD}, (L.map (·.1)).Nodup → getA L name = some x → metD (fun z => left z && !z.sameKey (.string name)) L = metD left L + x.2.b.length
 | [], _, _, hg => by simp [getA] at hg
 | (m, y) :: r, x, hn, hg => by
   rw [List.map_cons, List.nodup_cons] at hn
   unfold getA at hg
   by_cases hm : m = name
   ·subst hm
    simp at hg
    subst hg
    have h1 : metD (fun z => left z && !z.sameKey (.string m)) r = metD left r := metD_not left m r (fun p hp e => hn.1 (by rw [← e]; exact List.mem_map.2 ⟨p, hp, rfl⟩))
    have hk : (Lit.string m).sameKey (Lit.string m) = true := by show (m == m) = true; simp
    unfold metD at h1 ⊢
    simp only [List.filter_cons, hl, hk]
    simp only [Bool.not_true, Bool.and_false, Bool.not_false, if_true, List.map_cons, List.sum_cons, h1, Bool.false_eq_true, if_false]
    omega
   ·rw [if_neg (by simpa using hm)] at hg
    have ih := metD_step left name hl r hn.2 hg
    have hk : (Lit.string m).sameKey (Lit.string name) = false := by show (m == name) = false; simpa using hm
    unfold metD at ih ⊢
    simp only [List.filter_cons, hk, Bool.not_false, Bool.and_true]
    split
    ·simp only [List.map_cons, List.sum_cons, ih]
     omega
    ·exact ih
theorem metD_le (left : Lit → Bool) : ∀ L : List (Nm × (Nat × FileD)), metD left L ≤ (L.map fun p => p.2.2.b.length).sum
 | [] => by simp [metD]
 | p :: r => by
   have ih := metD_le left r
   unfold metD at ih ⊢
   simp only [List.filter_cons]
   split
   ·simp only [List.map_cons, List.sum_cons]; omega
   ·simp only [List.map_cons, List.sum_cons]; omega
theorem dkUsed_any (w : World) (F : Nat → Prop) (b : Nat) (d : DiskD) (h : DiskAt w F b d) (hu : usedD d ≤ 1099511627776) :
 Calls Tryz.prog 212 #[.pointer (some ⟨b, 0, none⟩)] w fun e w' => e = .returned (.int .i64 (usedD d : Int)) ∧ Keeps [] w w' := by
 obtain ⟨bm, L, h1, h2, h3, h4, h5, h6⟩ := h
 have x1 : w.cell? ⟨b, 1, none⟩ = some (.map (some bm)) := by unfold diskRow at h4; exact cell_of_block h4 1
 have hsum : (L.map fun p => p.2.2.b.length).sum = usedD d := by unfold usedD; rw [h1]; simp [mapA, Function.comp_def]
 have HSUM := hid hsum
 have HU := hid hu
 have HN := hid (fm_uniqueL h5)
 have HHAS : Hid (∀ p ∈ L, Maps.has (fmV (mapA (fun p => ptrV p.1) L)) (.string p.1) = true) := fun p hp => by
  rw [fm_has, getA_map]
  cases hg : getA L p.1 with
  | none => exact absurd rfl (getA_none.1 hg p hp)
  | some x => rfl
 have HF := hid h6
 clear h1 h2 h3 h4 h6 hsum hu
 go_enter Tryz.func212, Tryz.ntmps212
 go_wp2_with (at_range; refine wpList_range_own _ rfl _ _ rfl _ _ nameKeyed Tryz.underlying87 heldR bm L.length _ rfl h5 ?_; intro w0 hrg0 hg0 hs0)
 have hk0 : Keeps [] w w0 := Keeps.ofGrown hg0 (fun k hk => by cases hk)
 go_frame
 go_loopw [3] (fun nv wr => ∃ (left : Lit → Bool) (cnt : Nat), nv = .int .i64 (metD left L : Int) ∧ Hid (wr.ranges Tryz.prog 9 heldR bm w.heap.size L.length (fmV (mapA (fun p => ptrV p.1) L)) left cnt) ∧ Hid (Keeps [w.heap.size] w wr ∧ wr.heap.size = w.heap.size + 1)) (fun _ wr => wr.rangeLeft bm w.heap.size)
 case atStart => exact ⟨_, _, by rw [metD_start _ _ HHAS.out]; rfl, hrg0, hk0.mono (fun _ _ h => by cases h), hs0⟩
 case round =>
  obtain ⟨left, cnt, rfl, hR, hW⟩ := hrel
  have HR := hid hR.out
  have HW := hid hW.out
  have hml := metD_le left L
  rw [HSUM.out] at hml
  have HML := hid hml
  clear hR hW hml
  obtain ⟨m, hm⟩ : ∃ m, metD left L = m := ⟨_, rfl⟩
  rw [hm]
  have HM := hid hm
  clear hm
  go_wp2_with (at_next; refine wpList_next_fm _ rfl _ rfl bm w.heap.size L.length _ left cnt rfl HR.out ?_ ?_)
  ·intro _ hl
   have HL : Hid (m = usedD d) := by show _ = _; rw [← HM.out, metD_end _ _ hl, HSUM.out]
   clear hl
   go_wp2_with fail
   go_ret
   exact ⟨by rw [HL.out]; rfl, HW.out.1.mono (fun x hx hm => by simp at hm; omega)⟩
  ·intro name v w1 cnt1 hg hl hr hc hk hs he
   rw [getA_map] at hg
   cases hgl : getA L name with
   | none => rw [hgl] at hg; cases hg
   | some p =>
     rw [hgl] at hg
     simp only [Option.map_some, Option.some.injEq] at hg
     subst hg
     have hst := metD_step left name hl L HN.out hgl
     have hml1 := metD_le (fun z => left z && !z.sameKey (.string name)) L
     rw [hst, HM.out, HSUM.out] at hml1
     obtain ⟨a, c, hfb, hby⟩ := HF.out _ (getA_mem hgl)
     dsimp only at hfb hby
     have hlt := (Array.getElem?_eq_some_iff.1 hfb).1
     have hk2 : Keeps [w.heap.size] w w1 := HW.out.1.trans hk (fun _ _ h => h)
     have x2 : w1.cell? ⟨p.1, 0, none⟩ = some (.slice a p.2.b.length c) := hk2.cellSome (cell_of_block hfb 0) (by simp; omega)
     have hw1 : IntKind.i64.wrap ((m : Int) + (p.2.b.length : Int)) = (m : Int) + (p.2.b.length : Int) := by have := HU.out; rw [IntKind.wrap_i64]; omega
     have HST : Hid (metD (fun z => left z && !z.sameKey (.string name)) L = m + p.2.b.length) := by show _ = _; rw [hst, HM.out]
     have HR1 := hid hr
     have HC := hid hc
     have HK2 := hid hk2
     have HS := hid (hs.trans HW.out.2)
     clear hst hml1 hfb hby hlt hk2 hr hc hk hs hl hgl
     unfold ptrV at *
     go_wp2_with fail
     exact ⟨⟨_, cnt1, by rw [HST.out]; simp, HR1.out, HK2.out, HS.out⟩, by rw [HR1.out.left_eq, HR.out.left_eq]; exact HC.out⟩
end Go.Proofs.YtgjiahilbmeaeaaGreatDoor