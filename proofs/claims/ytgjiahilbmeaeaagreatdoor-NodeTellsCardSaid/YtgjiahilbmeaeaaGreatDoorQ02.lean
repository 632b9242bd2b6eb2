/- Joined of Plan, CoreA. -/
import Derived.StillTail
import Derived.OrdersHeld
import Derived.Deep.RegionHeld
import Derived.Tactics
import Derived.Test.YtgjiahilbmeaeaaGreatDoorQ01
import Derived.Outline
set_option maxRecDepth 100000
set_option maxHeartbeats 1600000
set_option linter.unusedSimpArgs false
set_option linter.unusedVariables false
/- A region that draws its order, walked in ONE order of the prover's choice: operations that yield their value in every world that meets S are taken first; the others come one at a time; behind each of them S holds, up «to» place n; from n on the operations stand in one forced order, and S is no longer asked (a store into a cell that the region has read). No program is named here. -/
namespace Go.Proofs.YtgjiahilbmeaeaaGreatDoor.Plan
open Go
section
variable {P : Program} {ops : Array Oper} {Q : Exit → Act → World → Prop} {md : Region.Mode} {S : World → Prop}
def wpAnyT (P : Program) (md : Region.Mode) (ops : Array Oper) (Q : Exit → Act → World → Prop) (S : World → Prop) (n : Nat) (L : Array Bool → Act → World → Prop) : Nat → Array Bool → Act → World → Prop
 | 0, listed, a, w => L listed a w
 | f + 1, listed, a, w => Region.ready md ops listed ≠ [] ∧ ∀ i ∈ Region.ready md ops listed, i < n ∧ wpOp P ops Q i (fun a' w' => S w' ∧ wpAnyT P md ops Q S n L f (listed.setIfInBounds i true) a' w') a w
theorem wpAny_of_T {n g : Nat} {L : Array Bool → Act → World → Prop} (hL : ∀ listed a w, L listed a w → wpAny P md ops Q g listed a w) :
 ∀ (f : Nat) (listed : Array Bool) (a : Act) (w : World), wpAnyT P md ops Q S n L f listed a w → wpAny P md ops Q (f + g) listed a w
 | 0, listed, a, w, h => by rw [Nat.zero_add]; exact hL _ _ _ h
 | f + 1, listed, a, w, h => by
   rw [show f + 1 + g = (f + g) + 1 by omega]
   exact ⟨fun h0 => absurd h0 h.1, fun i hi => wpOp_mono (fun a' w' h' => wpAny_of_T hL f _ a' w' h'.2) (h.2 i hi).2⟩
theorem barrier {n : Nat} {listed : Array Bool} (hb : n = ops.size ∨ (Region.sinkB md ops n = true ∧ Region.chainB md ops n = true ∧ n < ops.size)) (inv : HeadInv md ops n listed) {i : Nat} (hin : i < n) (hun : listed.getD i true = false) :
 ∀ j ∈ Region.ready md ops listed, j < n := fun j hj => by
 rcases hb with rfl | ⟨hs, hc, hn⟩
 ·obtain ⟨_, oj, hoj, _⟩ := mem_ready.1 hj
  exact (Array.getElem?_eq_some_iff.1 hoj).1
 ·rcases Nat.lt_or_ge j n with h | h
  ·exact h
  ·exact absurd hj (tail_waits hs hc hn inv _ i rfl hin hun j h)
theorem wpAnyT_first {n i : Nat} {oi : Oper} {v : Value} {L : Array Bool → Act → World → Prop} (hi : ops[i]? = some oi) (hsel : ∀ (j : Nat) (o : Oper) cs b, ops[j]? = some o → o.op ≠ .select cs b)
 (hb : n = ops.size ∨ (Region.sinkB md ops n = true ∧ Region.chainB md ops n = true ∧ n < ops.size)) (hin : i < n)
 (hdone : ∀ listed a w, L listed a w → ∀ j ∈ Region.ready md ops listed, n ≤ j) (hQ : ∀ c a w, Q (.panic c) (a.put oi.dst v) w → Q (.panic c) a w) :
 ∀ (f : Nat) (listed : Array Bool) (a : Act) (w : World), HeadInv md ops n listed →
   (∀ j oj, ops[j]? = some oj → j ≠ i → listed.getD j true = false → (∀ e ∈ oj.after, Region.binds md e = true → e.on ≠ i) → oi.apart ops oj = true) →
   i ∈ Region.ready md ops listed → YieldsIf P ops S oi v a → S w →
   wpAnyT P md ops Q S n L f (listed.setIfInBounds i true) (a.put oi.dst v) w → wpAnyT P md ops Q S n L (f + 1) listed a w := by
 intro f
 induction f with
 | zero =>
   intro listed a w inv _ hr hy hS H
   refine ⟨fun h => (by rw [h] at hr; cases hr), fun j hj => ?_⟩
   have hjn : j < n := barrier hb inv hin (mem_ready.1 hr).1 j hj
   refine ⟨hjn, ?_⟩
   by_cases hji : j = i
   ·subst hji; exact hy.wpOp hi hS ⟨hS, H⟩
   ·have := hdone _ _ _ H j (ready_mono hj hji)
    omega
 | succ f ih =>
   intro listed a w inv hfree hr hy hS H
   have hun := (mem_ready.1 hr).1
   refine ⟨fun h => (by rw [h] at hr; cases hr), fun j hj => ?_⟩
   have hjn : j < n := barrier hb inv hin hun j hj
   refine ⟨hjn, ?_⟩
   by_cases hji : j = i
   ·subst hji; exact hy.wpOp hi hS ⟨hS, H⟩
   ·have h1 := (H.2 j (ready_mono hj hji)).2
    obtain ⟨hjun, oj, hoj, hall⟩ := mem_ready.1 hj
    have hnot : ∀ e ∈ oj.after, Region.binds md e = true → e.on ≠ i := fun e he hb heq => by
     have h1 := hall e he hb
     rw [heq, getD_both hun] at h1
     cases h1
    have h2 := wpOp_putIf hoj (hfree j oj hoj hji hjun hnot) (fun cs b => hsel i oi cs b hi) (fun cs b => hsel j oj cs b hoj) hQ hy h1
    have hfree' : ∀ k ok, ops[k]? = some ok → k ≠ i → (listed.setIfInBounds j true).getD k true = false →
     (∀ e ∈ ok.after, Region.binds md e = true → e.on ≠ i) → oi.apart ops ok = true := fun k ok hk hki hun hno => by
     refine hfree k ok hk hki ?_ hno
     by_cases hjk : j = k
     ·subst hjk; exact hjun
     ·rw [getD_set_ne true hjk] at hun; exact hun
    refine wpOp_mono (fun a' w' h3 => ⟨h3.2.1, ih (listed.setIfInBounds j true) a' w' (inv.set hj hjn) hfree' (ready_mono hr (Ne.symm hji)) h3.1 h3.2.1 ?_⟩) h2
    rw [Array.setIfInBounds_comm _ _ hji]
    exact h3.2.2
def planB (md : Region.Mode) (ops : Array Oper) (n g : Nat) : List (Bool × Nat) → Array Bool → Bool
 | [], listed => Region.seqB md ops g n listed
 | (true, i) :: r, listed => decide (i < n) && (Region.ready md ops listed).contains i && Region.free md ops listed i && planB md ops n g r (listed.setIfInBounds i true)
 | (false, i) :: r, listed => decide (i < n) && decide (Region.ready md ops listed = [i]) && planB md ops n g r (listed.setIfInBounds i true)
def wpPlan (P : Program) (ops : Array Oper) (Q : Exit → Act → World → Prop) (S : World → Prop) (L : Act → World → Prop) : List (Bool × Nat) → Act → World → Prop
 | [], a, w => L a w
 | (true, i) :: r, a, w => ∃ oi v, ops[i]? = some oi ∧ YieldsIf P ops S oi v a ∧ wpPlan P ops Q S L r (a.put oi.dst v) w
 | (false, i) :: r, a, w => wpOp P ops Q i (fun a' w' => S w' ∧ wpPlan P ops Q S L r a' w') a w
theorem wpAnyT_of_plan {n g : Nat} {Lq : Act → World → Prop} (hsel : Region.noSelect ops = true) (hb : n = ops.size ∨ (Region.sinkB md ops n = true ∧ Region.chainB md ops n = true ∧ n < ops.size))
 (hQ : ∀ c a d v w, Q (.panic c) (Act.put a (some d) v) w → Q (.panic c) a w) :
 ∀ (l : List (Bool × Nat)) (listed : Array Bool) (a : Act) (w : World), HeadInv md ops n listed → planB md ops n g l listed = true → S w → wpPlan P ops Q S Lq l a w →
   wpAnyT P md ops Q S n (fun listed' a' w' => Region.seqB md ops g n listed' = true ∧ Lq a' w') l.length listed a w
 | [], listed, a, w, inv, hB, hS, h => ⟨by simpa [planB] using hB, h⟩
 | (true, i) :: r, listed, a, w, inv, hB, hS, h => by
   simp only [planB, Bool.and_eq_true, decide_eq_true_eq] at hB
   obtain ⟨⟨⟨hin, hr⟩, hf⟩, hB'⟩ := hB
   obtain ⟨oi, v, hoi, hy, hK⟩ := h
   have hr' : i ∈ Region.ready md ops listed := by simpa using hr
   exact wpAnyT_first hoi (Region.noSelect_spec hsel) hb hin (fun listed' a' w' hL => seqB_ready hL.1) (fun c a w h => by cases hd : oi.dst with | none => rw [hd] at h; exact h | some d => rw [hd] at h; exact hQ c a d _ w h) r.length listed a w inv (Region.free_spec hoi hf) hr' hy hS
    (wpAnyT_of_plan hsel hb hQ r _ _ w (inv.set hr' hin) hB' hS hK)
 | (false, i) :: r, listed, a, w, inv, hB, hS, h => by
   simp only [planB, Bool.and_eq_true, decide_eq_true_eq] at hB
   obtain ⟨⟨hin, hr⟩, hB'⟩ := hB
   have hr' : i ∈ Region.ready md ops listed := by rw [hr]; simp
   refine ⟨fun h0 => (by rw [h0] at hr'; cases hr'), fun j hj => ?_⟩
   rw [hr] at hj
   have hji : j = i := by simpa using hj
   subst hji
   exact ⟨hin, wpOp_mono (fun a' w' h3 => ⟨h3.1, wpAnyT_of_plan hsel hb hQ r _ a' w' (inv.set hr' hin) hB' h3.1 h3.2⟩) h⟩
def goodB (md : Region.Mode) (ops : Array Oper) (n : Nat) (l : List (Bool × Nat)) : Bool :=
 Region.noSelect ops && (decide (n = ops.size) || (decide (n < ops.size) && Region.sinkB md ops n && Region.chainB md ops n)) && decide (l.length = n) && planB md ops n (ops.size - n) l (Array.replicate ops.size false)
def PlanPost (Q : Exit → Act → World → Prop) (C : Act → World → Prop) : Exit → Act → World → Prop
 | .normal, a, w => C a w
 | e, a, w => Q e a w
theorem Oper.wp_planPost {o : Oper} {a : Act} {w : World} {K C : Act → World → Prop} (h : o.wp P a w K (PlanPost Q C)) : o.wp P a w K Q := by
 unfold Oper.wp at *
 generalize (execOp a.eval o).run P w = r at *
 cases r with
 | ok n w' =>
   cases n <;> simp only [Oper.upon] at h ⊢ <;>
    first
     | exact h
     | exact Calls.mono h (fun e w'' he => by cases e <;> exact he)
 | halt x w' => cases x <;> simp only [Oper.upon] at h ⊢ <;> exact h
def pick (l : List Oper) : List (Bool × Nat) → List (Bool × Oper)
 | [] => []
 | (b, i) :: r => (b, (l[i]?).getD ⟨none, .ready 0, 0, "", #[], none⟩) :: pick l r
def inB (l : List Oper) (pl : List (Bool × Nat)) : Bool := pl.all fun x => decide (x.2 < l.length)
def wpPicked (P : Program) (ops : Array Oper) (Q : Exit → Act → World → Prop) (S : World → Prop) (L : Act → World → Prop) : List (Bool × Oper) → Act → World → Prop
 | [], a, w => L a w
 | (true, o) :: r, a, w => ∃ v, YieldsIf P ops S o v a ∧ wpPicked P ops Q S L r (a.put o.dst v) w
 | (false, o) :: r, a, w => wpList P ops (PlanPost Q (fun a w => S w ∧ wpPicked P ops Q S L r a w)) [o] a w
theorem wpPlan_of_picked {l : List Oper} {L : Act → World → Prop} : ∀ (pl : List (Bool × Nat)) (a : Act) (w : World), inB l pl = true → wpPicked P l.toArray Q S L (pick l pl) a w → wpPlan P l.toArray Q S L pl a w
 | [], _, _, _, h => h
 | (b, i) :: r, a, w, hB, h => by
   simp only [inB, List.all_cons, Bool.and_eq_true, decide_eq_true_eq] at hB
   obtain ⟨hi, hr⟩ := hB
   have hr' : inB l r = true := hr
   have ho : l[i]? = some l[i] := List.getElem?_eq_getElem hi
   have ho' : l.toArray[i]? = some l[i] := by simp
   cases b with
   | true =>
     simp only [pick, ho, Option.getD_some, wpPicked] at h
     obtain ⟨v, hy, hK⟩ := h
     exact ⟨l[i], v, ho', hy, wpPlan_of_picked r _ w hr' hK⟩
   | false =>
     simp only [pick, ho, Option.getD_some, wpPicked, wpList] at h
     unfold wpPlan wpOp
     simp only [ho']
     split
     ·rename_i hw
      rw [if_pos hw] at h
      exact h.imp (fun h => Oper.wp_mono (fun a' w' h' => ⟨h'.1, wpPlan_of_picked r a' w' hr' h'.2⟩) (Oper.wp_planPost h)) id
     ·rename_i hw
      rw [if_neg hw] at h
      exact ⟨h.1, wpPlan_of_picked r _ w hr' h.2⟩
theorem wp_region_plan {id : Nat} {a : Act} {w : World} {l : List Oper} (S : World → Prop) (n : Nat) (pl : List (Bool × Nat)) (hm : P.follows .mixedOrders = true) (hB : goodB .any l.toArray n pl = true) (hI : inB l pl = true)
 (hQ : ∀ c a d v w, Q (.panic c) (Act.put a (some d) v) w → Q (.panic c) a w) (hS : S w.drew)
 (h : S w.drew → wpPicked P l.toArray Q S (wpList P l.toArray Q (l.drop n)) (pick l pl) a w.drew) : (Code.region id l.toArray true).wp P Q a w := by
 simp only [goodB, Bool.and_eq_true, Bool.or_eq_true, decide_eq_true_eq] at hB
 obtain ⟨⟨⟨hsel, hb⟩, hlen⟩, hpl⟩ := hB
 have hb' : n = l.toArray.size ∨ (Region.sinkB .any l.toArray n = true ∧ Region.chainB .any l.toArray n = true ∧ n < l.toArray.size) := hb.imp (fun h => h) fun h => ⟨h.1.2, h.2, h.1.1⟩
 have hn : n ≤ l.toArray.size := by rcases hb' with h | h <;> omega
 have hn' : n ≤ l.length := by simpa using hn
 have hdl : (l.drop n).length = l.toArray.size - n := by simp
 have inv0 : HeadInv .any l.toArray n (Array.replicate l.toArray.size false) :=
  ⟨by simp, fun j oj _ hl => (by rw [getD_replicate_false] at hl; cases hl), fun t _ ht => getD_in (by simpa using ht) (getD_replicate_false _ _)⟩
 have H := wpAnyT_of_plan (md := .any) (g := l.toArray.size - n) hsel hb' hQ pl _ a w.drew inv0 hpl hS (wpPlan_of_picked pl a w.drew hI (h hS))
 refine wp_region_any hm ?_
 have := wpAny_of_T (Q := Q) (g := l.toArray.size - n) (fun listed a' w' hL => by
  have := wpAny_of_seq (md := .any) (Q' := Q) (l.drop n) n listed a' w' (fun j => by simp [List.getElem?_drop]) (by rw [hdl]; exact hL.1) hL.2
  rwa [hdl] at this) _ _ _ _ H
 rw [hlen, show n + (l.toArray.size - n) = l.toArray.size by omega] at this
 exact this
theorem take {L : Act → World → Prop} {o : Oper} {v : Value} {r : List (Bool × Oper)} {a a' : Act} {w : World} (hw : Region.wanted o (yielded ops a.tmps) = true)
 (hy : ∀ w, S w → (execOp a.eval o).run P w = .ok (.value v) w) (hput : a.put o.dst v = a') (h : wpPicked P ops Q S L r a' w) : wpPicked P ops Q S L ((true, o) :: r) a w := ⟨v, .inl ⟨hw, hy⟩, hput ▸ h⟩
theorem pass {L : Act → World → Prop} {o : Oper} {r : List (Bool × Oper)} {a a' : Act} {w : World} (hw : Region.wanted o (yielded ops a.tmps) = false)
 (hput : a.put o.dst undef = a') (h : wpPicked P ops Q S L r a' w) : wpPicked P ops Q S L ((true, o) :: r) a w := ⟨undef, .inr ⟨hw, rfl⟩, hput ▸ h⟩
theorem want_all {o : Oper} {y : Nat → Option Bool} (h : o.guard = none) : Region.wanted o y = true := by unfold Region.wanted; rw [h]
theorem want_yes {o oj : Oper} {ops : Array Oper} {tmps : Array Value} {j d : Nat} {b : Bool} (h : o.guard = some (j, b)) (h1 : ops[j]? = some oj) (h2 : oj.dst = some d) (h3 : tmps[d]? = some (.bool b)) : Region.wanted o (yielded ops tmps) = true := by
 unfold Region.wanted yielded
 rw [h]
 simp [h1, h2, h3]
theorem want_no {o oj : Oper} {ops : Array Oper} {tmps : Array Value} {j d : Nat} {b : Bool} (h : o.guard = some (j, b)) (h1 : ops[j]? = some oj) (h2 : oj.dst = some d) (h3 : tmps[d]? = some (.bool (!b))) : Region.wanted o (yielded ops tmps) = false := by
 unfold Region.wanted yielded
 rw [h]
 cases b <;> simp_all
theorem want_un {o oj : Oper} {ops : Array Oper} {tmps : Array Value} {j d : Nat} {b : Bool} (h : o.guard = some (j, b)) (h1 : ops[j]? = some oj) (h2 : oj.dst = some d) (h3 : tmps[d]? = some undef) : Region.wanted o (yielded ops tmps) = false := by
 unfold Region.wanted yielded
 rw [h]
 simp [h1, h2, h3, undef]
theorem l1 {α : Type} (l : List α) (i : Nat) (a : α) : l.toArray.setIfInBounds i a = (l.set i a).toArray := List.setIfInBounds_toArray ..
theorem l2 {α : Type} (l : List α) (a b : α) : (a :: l).set 0 b = b :: l := rfl
theorem l3 {α : Type} (l : List α) (i : Nat) (a b : α) : (a :: l).set (i + 1) b = a :: l.set i b := rfl
theorem g1 {α : Type} (l : List α) (a : α) : (a :: l)[0]? = some a := List.getElem?_cons_zero
theorem g2 {α : Type} (l : List α) (i : Nat) (a : α) : (a :: l)[i + 1]? = l[i]? := List.getElem?_cons_succ
theorem tA {L : Act → World → Prop} {o : Oper} {v : Value} {r : List (Bool × Oper)} {a a' : Act} {w : World} (h : wpPicked P ops Q S L r a' w) (hg : o.guard = none := by rfl)
 (hy : ∀ w, S w → (execOp a.eval o).run P w = .ok (.value v) w := by intro w' hS'; (try dsimp only at hS'); go_simp; try with_reducible rfl)
 (hput : a.put o.dst v = a' := by simp only [Act.put, Plan.l1, Plan.l2, Plan.l3]; try with_reducible rfl) : wpPicked P ops Q S L ((true, o) :: r) a w := take (want_all hg) hy hput h
theorem tY {L : Act → World → Prop} {o oj : Oper} {j d : Nat} {b : Bool} {v : Value} {r : List (Bool × Oper)} {a a' : Act} {w : World} (h : wpPicked P ops Q S L r a' w)
 (hg : o.guard = some (j, b) := by rfl) (h1 : ops[j]? = some oj := by rfl) (h2 : oj.dst = some d := by rfl) (h3 : a.tmps[d]? = some (.bool b) := by rfl)
 (hy : ∀ w, S w → (execOp a.eval o).run P w = .ok (.value v) w := by intro w' hS'; (try dsimp only at hS'); go_simp; try with_reducible rfl)
 (hput : a.put o.dst v = a' := by simp only [Act.put, Plan.l1, Plan.l2, Plan.l3]; try with_reducible rfl) : wpPicked P ops Q S L ((true, o) :: r) a w := take (want_yes hg h1 h2 h3) hy hput h
theorem pN {L : Act → World → Prop} {o oj : Oper} {j d : Nat} {b : Bool} {r : List (Bool × Oper)} {a a' : Act} {w : World} (h : wpPicked P ops Q S L r a' w)
 (hg : o.guard = some (j, b) := by rfl) (h1 : ops[j]? = some oj := by rfl) (h2 : oj.dst = some d := by rfl) (h3 : a.tmps[d]? = some (.bool (!b)) := by rfl)
 (hput : a.put o.dst undef = a' := by simp only [Act.put, Plan.l1, Plan.l2, Plan.l3]; try with_reducible rfl) : wpPicked P ops Q S L ((true, o) :: r) a w := pass (want_no hg h1 h2 h3) hput h
theorem pU {L : Act → World → Prop} {o oj : Oper} {j d : Nat} {b : Bool} {r : List (Bool × Oper)} {a a' : Act} {w : World} (h : wpPicked P ops Q S L r a' w)
 (hg : o.guard = some (j, b) := by rfl) (h1 : ops[j]? = some oj := by rfl) (h2 : oj.dst = some d := by rfl) (h3 : a.tmps[d]? = some undef := by rfl)
 (hput : a.put o.dst undef = a' := by simp only [Act.put, Plan.l1, Plan.l2, Plan.l3]; try with_reducible rfl) : wpPicked P ops Q S L ((true, o) :: r) a w := pass (want_un hg h1 h2 h3) hput h
theorem step {L : Act → World → Prop} {o : Oper} {r : List (Bool × Oper)} {a : Act} {w : World}
 (h : wpList P ops (PlanPost Q (fun a w => S w ∧ wpPicked P ops Q S L r a w)) [o] a w) : wpPicked P ops Q S L ((false, o) :: r) a w := h
theorem fin {L : Act → World → Prop} {a : Act} {w : World} (h : L a w) : wpPicked P ops Q S L [] a w := h
end
end Go.Proofs.YtgjiahilbmeaeaaGreatDoor.Plan
/- Package core's, its reference's smallest functions; which configs may be. -/
namespace Go.Proofs.YtgjiahilbmeaeaaGreatDoor
open Go Go.RowKit
theorem cin_any (v a b : Int) (w : World) : Calls Tryz.prog 72 #[.int .i64 v, .int .i64 a, .int .i64 b] w fun e w' => e = .returned (.bool (inD v a b)) ∧ w' = w := by
 by_cases h1 : a ≤ v
 ·by_cases h2 : v ≤ b
  ·go_enter Tryz.func72, Tryz.ntmps72
   go_wp2
   go_ret
   exact ⟨by simp [inD, h1, h2], rfl⟩
  ·go_enter Tryz.func72, Tryz.ntmps72
   go_wp2
   go_ret
   exact ⟨by simp [inD, h2], rfl⟩
 ·go_enter Tryz.func72, Tryz.ntmps72
  go_wp2
  go_ret
  exact ⟨by simp [inD]; omega, rfl⟩
def confV (c : ConfD) : Value := .agg #[.int .i64 c.nodes, .int .i64 c.clients, .int .i64 c.heart, .int .i64 c.lo, .int .i64 c.range, .int .i64 c.sessions, .int .i64 c.snap, .int .i64 c.room, .int .i64 c.retry]
theorem ret_bool {a b : Bool} (h : a = b) : Ending.returned (.bool a) = .returned (.bool b) := by rw [h]
theorem ret_ib {k : IntKind} {a a' : Int} {b b' : Bool} (h : a = a') (g : b = b') : Ending.returned (.tuple #[.int k a, .bool b]) = .returned (.tuple #[.int k a', .bool b']) := by rw [h, g]
theorem wpList_index {P : Program} {ops : Array Oper} {rest : List Oper} {o : Oper} {a : Act} {w : World} {Q : Exit → Act → World → Prop} (hgd : o.guard = none) (t : TypeId) (x i : Operand) (ho : o.op = .index t x i) (vx vi v : Value) (hx : a.eval x = vx) (hi : a.eval i = vi)
 (hrun : (Instr.index t vx vi).run P w = .ok v w) (h : wpList P ops Q rest (a.put o.dst v) w) : wpList P ops Q (o :: rest) a w := by
 refine wpList_plain hgd fun K hK => ?_
 unfold Oper.wp execOp
 simp only [ho, Sem.run_bind, Sem.run_pure, Result.andThen_ok, hx, hi, hrun]
 exact hK _ _ h
def ConfD.rowW (c : ConfD) : Nat → Int × Int × Int
 | 3 => (c.lo, wrap64 (c.heart + 1), 1000)
 | k => c.row k
theorem ConfD.rowW_eq (c : ConfD) (k : Nat) (h : c.mayTo k = true) : c.rowW k = c.row k := by
 unfold ConfD.rowW
 split
 ·simp [ConfD.mayTo, ConfD.ok, ConfD.row, inD] at h
  rw [IntWalk.wrap64_in _ ⟨by omega, by omega⟩]
  rfl
 ·rfl
theorem may_row (c : ConfD) (w : World) : ∀ k, k < 9 → ∃ x a b, c.rowW k = (x, a, b) ∧ (Instr.index 164 (.agg #[.int .i64 c.nodes, .int .i64 3, .int .i64 7, .int .i64 c.clients, .int .i64 0, .int .i64 8, .int .i64 c.heart, .int .i64 1, .int .i64 100, .int .i64 c.lo, .int .i64 (wrap64 (c.heart + 1)), .int .i64 1000, .int .i64 c.range, .int .i64 0, .int .i64 1000,
 .int .i64 c.sessions, .int .i64 1, .int .i64 16, .int .i64 c.snap, .int .i64 1, .int .i64 1000, .int .i64 c.room, .int .i64 0, .int .i64 512, .int .i64 c.retry, .int .i64 1, .int .i64 1000]) (.int .i64 k)).run Tryz.prog w = .ok (.agg #[.int .i64 x, .int .i64 a, .int .i64 b]) w
 | 0, _ => ⟨_, _, _, rfl, by kernel_rfl⟩
 | 1, _ => ⟨_, _, _, rfl, by kernel_rfl⟩
 | 2, _ => ⟨_, _, _, rfl, by kernel_rfl⟩
 | 3, _ => ⟨_, _, _, rfl, by kernel_rfl⟩
 | 4, _ => ⟨_, _, _, rfl, by kernel_rfl⟩
 | 5, _ => ⟨_, _, _, rfl, by kernel_rfl⟩
 | 6, _ => ⟨_, _, _, rfl, by kernel_rfl⟩
 | 7, _ => ⟨_, _, _, rfl, by kernel_rfl⟩
 | 8, _ => ⟨_, _, _, rfl, by kernel_rfl⟩
 | n + 9, h => by omega
theorem cMay_any (c : ConfD) (w : World) : Calls Tryz.prog 32 #[confV c] w fun e w' => e = .returned (.bool c.may) ∧ Keeps [] w w' := by
 unfold confV
 go_enter Tryz.func32, Tryz.ntmps32
 go_wp2_with fail
 go_loopw [36] (fun i wr => ∃ k : Nat, k ≤ 9 ∧ i = .int .i64 k ∧ Hid (c.mayTo k = true ∧ Keeps [] w wr)) (fun i _ => 9 - (intOf i).toNat)
 case atStart => exact ⟨0, Nat.zero_le _, rfl, rfl, (Keeps.refl [] w).alloc _⟩
 case round =>
  obtain ⟨k, hk, rfl, HW⟩ := hrel
  by_cases hlt : k < 9
  ·have i1 : (k : Int) < 9 := by omega
   obtain ⟨x, a, b, hr, hi⟩ := may_row c wr k hlt
   have HI := hid hi
   clear hi
   have HR : Hid (c.row k = (x, a, b)) := by show _ = _; rw [← hr, c.rowW_eq k HW.out.1]
   clear hr
   by_cases h1 : x < a
   ·have HF : Hid (c.may = false) := ConfD.not_may hlt (by unfold ConfD.ok; rw [HR.out]; simp [inD]; omega)
    go_wp2_with (show wpList _ _ _ (⟨some 38, _, _, _, _, _⟩ :: _) _ _; go_must (refine wpList_index rfl _ _ _ rfl _ _ _ rfl rfl HI.out ?_))
    go_ret
    exact ⟨ret_bool HF.out.symm, HW.out.2.alloc _⟩
   ·by_cases h2 : b < x
    ·have HF : Hid (c.may = false) := ConfD.not_may hlt (by unfold ConfD.ok; rw [HR.out]; simp [inD]; omega)
     go_wp2_with (show wpList _ _ _ (⟨some 38, _, _, _, _, _⟩ :: _) _ _; go_must (refine wpList_index rfl _ _ _ rfl _ _ _ rfl rfl HI.out ?_))
     go_ret
     exact ⟨ret_bool HF.out.symm, HW.out.2.alloc _⟩
    ·have HT : Hid (c.mayTo (k + 1) = true) := by
      show _ = _
      simp only [ConfD.mayTo, ConfD.ok, HW.out.1, HR.out]
      simp [inD]
      omega
     go_wp2_with (show wpList _ _ _ (⟨some 38, _, _, _, _, _⟩ :: _) _ _; go_must (refine wpList_index rfl _ _ _ rfl _ _ _ rfl rfl HI.out ?_))
     go_roundw
     case rel => exact ⟨k + 1, by omega, by go_num, HT.out, HW.out.2.alloc _⟩
     case measure => simp [intOf]; omega
  ·have hk9 : k = 9 := by omega
   subst hk9
   go_wp2_with fail
   go_ret
   exact ⟨ret_bool HW.out.1.symm, HW.out.2⟩
theorem cin_is (r : Bool) (v a b : Int) (w : World) (h : inD v a b = r) : Calls Tryz.prog 72 #[.int .i64 v, .int .i64 a, .int .i64 b] w fun e w' => e = .returned (.bool r) ∧ w' = w := by rw [← h]; exact cin_any v a b w
end Go.Proofs.YtgjiahilbmeaeaaGreatDoor