/- The plan as a tree: where two operations may come up, both ways are walked. No program is named here. -/
import Derived.Test.YtbbdmmhpbeleoaaGreatDoorQ02

set_option linter.unusedSimpArgs false
set_option linter.unusedVariables false
namespace Go.Proofs.YtbbdmmhpbeleoaaGreatDoor.Plan
open Go

inductive PT where
  | fin
  | take (i : Nat) (t : PT)
  | step (i : Nat) (t : PT)
  | fork (i j : Nat) (t u : PT)
def PT.len : PT → Nat
  | .fin => 0
  | .take _ t => t.len + 1
  | .step _ t => t.len + 1
  | .fork _ _ t _ => t.len + 1

section
variable {P : Program} {ops : Array Oper} {Q : Exit → Act → World → Prop} {md : Region.Mode} {S : World → Prop}

def treeB (md : Region.Mode) (ops : Array Oper) (n g : Nat) : PT → Array Bool → Bool
  | .fin, listed => Region.seqB md ops g n listed
  | .take i t, listed => decide (i < n) && (Region.ready md ops listed).contains i && Region.free md ops listed i && treeB md ops n g t (listed.setIfInBounds i true)
  | .step i t, listed => decide (i < n) && decide (Region.ready md ops listed = [i]) && treeB md ops n g t (listed.setIfInBounds i true)
  | .fork i j t u, listed => decide (i < n) && decide (j < n) && decide (Region.ready md ops listed = [i, j]) && decide (t.len = u.len) && treeB md ops n g t (listed.setIfInBounds i true) && treeB md ops n g u (listed.setIfInBounds j true)

def wpTree (P : Program) (ops : Array Oper) (Q : Exit → Act → World → Prop) (S : World → Prop) (L : Act → World → Prop) : PT → Act → World → Prop
  | .fin, a, w => L a w
  | .take i t, a, w => ∃ oi v, ops[i]? = some oi ∧ YieldsIf P ops S oi v a ∧ wpTree P ops Q S L t (a.put oi.dst v) w
  | .step i t, a, w => wpOp P ops Q i (fun a' w' => S w' ∧ wpTree P ops Q S L t a' w') a w
  | .fork i j t u, a, w => wpOp P ops Q i (fun a' w' => S w' ∧ wpTree P ops Q S L t a' w') a w ∧ wpOp P ops Q j (fun a' w' => S w' ∧ wpTree P ops Q S L u a' w') a w

theorem wpAnyT_of_tree {n g : Nat} {Lq : Act → World → Prop} (hsel : Region.noSelect ops = true) (hb : n = ops.size ∨ (Region.sinkB md ops n = true ∧ Region.chainB md ops n = true ∧ n < ops.size))
    (hQ : ∀ c a d v w, Q (.panic c) (Act.put a (some d) v) w → Q (.panic c) a w) :
    ∀ (t : PT) (listed : Array Bool) (a : Act) (w : World), HeadInv md ops n listed → treeB md ops n g t listed = true → S w → wpTree P ops Q S Lq t a w →
      wpAnyT P md ops Q S n (fun listed' a' w' => Region.seqB md ops g n listed' = true ∧ Lq a' w') t.len listed a w
  | .fin, listed, a, w, inv, hB, hS, h => ⟨by simpa [treeB] using hB, h⟩
  | .take i t, listed, a, w, inv, hB, hS, h => by
    simp only [treeB, Bool.and_eq_true, decide_eq_true_eq] at hB
    obtain ⟨⟨⟨hin, hr⟩, hf⟩, hB'⟩ := hB
    obtain ⟨oi, v, hoi, hy, hK⟩ := h
    have hr' : i ∈ Region.ready md ops listed := by simpa using hr
    exact wpAnyT_first hoi (Region.noSelect_spec hsel) hb hin (fun listed' a' w' hL => seqB_ready hL.1) (fun c a w h => by cases hd : oi.dst with | none => rw [hd] at h; exact h | some d => rw [hd] at h; exact hQ c a d _ w h) t.len listed a w inv (Region.free_spec hoi hf) hr' hy hS
      (wpAnyT_of_tree hsel hb hQ t _ _ w (inv.set hr' hin) hB' hS hK)
  | .step i t, listed, a, w, inv, hB, hS, h => by
    simp only [treeB, Bool.and_eq_true, decide_eq_true_eq] at hB
    obtain ⟨⟨hin, hr⟩, hB'⟩ := hB
    have hr' : i ∈ Region.ready md ops listed := by rw [hr]; simp
    refine ⟨fun h0 => (by rw [h0] at hr'; cases hr'), fun j hj => ?_⟩
    rw [hr] at hj
    have hji : j = i := by simpa using hj
    subst hji
    exact ⟨hin, wpOp_mono (fun a' w' h3 => ⟨h3.1, wpAnyT_of_tree hsel hb hQ t _ a' w' (inv.set hr' hin) hB' h3.1 h3.2⟩) h⟩
  | .fork i j t u, listed, a, w, inv, hB, hS, h => by
    simp only [treeB, Bool.and_eq_true, decide_eq_true_eq] at hB
    obtain ⟨⟨⟨⟨⟨hin, hjn⟩, hr⟩, hlen⟩, hB1⟩, hB2⟩ := hB
    have hri : i ∈ Region.ready md ops listed := by rw [hr]; simp
    have hrj : j ∈ Region.ready md ops listed := by rw [hr]; simp
    refine ⟨fun h0 => (by rw [h0] at hri; cases hri), fun k hk => ?_⟩
    rw [hr] at hk
    simp only [List.mem_cons, List.not_mem_nil, or_false] at hk
    rcases hk with rfl | rfl
    · exact ⟨hin, wpOp_mono (fun a' w' h3 => ⟨h3.1, wpAnyT_of_tree hsel hb hQ t _ a' w' (inv.set hri hin) hB1 h3.1 h3.2⟩) h.1⟩
    · refine ⟨hjn, wpOp_mono (fun a' w' h3 => ⟨h3.1, ?_⟩) h.2⟩
      have := wpAnyT_of_tree hsel hb hQ u _ a' w' (inv.set hrj hjn) hB2 h3.1 h3.2
      rw [← hlen] at this
      exact this

def goodT (md : Region.Mode) (ops : Array Oper) (n : Nat) (t : PT) : Bool :=
  Region.noSelect ops && (decide (n = ops.size) || (decide (n < ops.size) && Region.sinkB md ops n && Region.chainB md ops n)) && decide (t.len = n) && treeB md ops n (ops.size - n) t (Array.replicate ops.size false)

/-- The tree with its operations written out. -/
inductive OT where
  | fin
  | take (o : Oper) (t : OT)
  | step (o : Oper) (t : OT)
  | fork (o o' : Oper) (t u : OT)
def pickT (l : List Oper) : PT → OT
  | .fin => .fin
  | .take i t => .take ((l[i]?).getD ⟨none, .ready 0, 0, "", #[], none⟩) (pickT l t)
  | .step i t => .step ((l[i]?).getD ⟨none, .ready 0, 0, "", #[], none⟩) (pickT l t)
  | .fork i j t u => .fork ((l[i]?).getD ⟨none, .ready 0, 0, "", #[], none⟩) ((l[j]?).getD ⟨none, .ready 0, 0, "", #[], none⟩) (pickT l t) (pickT l u)
def inT (n : Nat) : PT → Bool
  | .fin => true
  | .take i t => decide (i < n) && inT n t
  | .step i t => decide (i < n) && inT n t
  | .fork i j t u => decide (i < n) && decide (j < n) && inT n t && inT n u
def wpOT (P : Program) (ops : Array Oper) (Q : Exit → Act → World → Prop) (S : World → Prop) (L : Act → World → Prop) : OT → Act → World → Prop
  | .fin, a, w => L a w
  | .take o t, a, w => ∃ v, YieldsIf P ops S o v a ∧ wpOT P ops Q S L t (a.put o.dst v) w
  | .step o t, a, w => wpList P ops (PlanPost Q (fun a w => S w ∧ wpOT P ops Q S L t a w)) [o] a w
  | .fork o o' t u, a, w => wpList P ops (PlanPost Q (fun a w => S w ∧ wpOT P ops Q S L t a w)) [o] a w ∧ wpList P ops (PlanPost Q (fun a w => S w ∧ wpOT P ops Q S L u a w)) [o'] a w

theorem wpOp_of_list {l : List Oper} {i : Nat} {K C : Act → World → Prop} (hi : i < l.length) (hK : ∀ a w, C a w → K a w) {a : Act} {w : World} (h : wpList P l.toArray (PlanPost Q C) [(l[i]?).getD ⟨none, .ready 0, 0, "", #[], none⟩] a w) : wpOp P l.toArray Q i K a w := by
  have ho : l[i]? = some l[i] := List.getElem?_eq_getElem hi
  have ho' : l.toArray[i]? = some l[i] := by simp
  simp only [ho, Option.getD_some, wpList] at h
  unfold wpOp
  simp only [ho']
  split
  · rename_i hw
    rw [if_pos hw] at h
    exact h.imp (fun h => Oper.wp_mono (fun a' w' h' => hK a' w' h') (Oper.wp_planPost h)) (fun h => h)
  · rename_i hw
    rw [if_neg hw] at h
    exact hK _ _ h

theorem wpTree_of_OT {l : List Oper} {L : Act → World → Prop} : ∀ (t : PT) (a : Act) (w : World), inT l.length t = true → wpOT P l.toArray Q S L (pickT l t) a w → wpTree P l.toArray Q S L t a w
  | .fin, _, _, _, h => h
  | .take i t, a, w, hB, h => by
    simp only [inT, Bool.and_eq_true, decide_eq_true_eq] at hB
    have ho : l[i]? = some l[i] := List.getElem?_eq_getElem hB.1
    simp only [pickT, ho, Option.getD_some, wpOT] at h
    obtain ⟨v, hy, hK⟩ := h
    exact ⟨l[i], v, by simp, hy, wpTree_of_OT t _ w hB.2 hK⟩
  | .step i t, a, w, hB, h => by
    simp only [inT, Bool.and_eq_true, decide_eq_true_eq] at hB
    exact wpOp_of_list hB.1 (fun a' w' h' => ⟨h'.1, wpTree_of_OT t a' w' hB.2 h'.2⟩) h
  | .fork i j t u, a, w, hB, h => by
    simp only [inT, Bool.and_eq_true, decide_eq_true_eq] at hB
    exact ⟨wpOp_of_list hB.1.1.1 (fun a' w' h' => ⟨h'.1, wpTree_of_OT t a' w' hB.1.2 h'.2⟩) h.1, wpOp_of_list hB.1.1.2 (fun a' w' h' => ⟨h'.1, wpTree_of_OT u a' w' hB.2 h'.2⟩) h.2⟩

/-- THE LAW. -/
theorem wp_region_tree {id : Nat} {a : Act} {w : World} {l : List Oper} (S : World → Prop) (n : Nat) (t : PT) (hm : P.follows .mixedOrders = true) (hB : goodT .any l.toArray n t = true) (hI : inT l.length t = true)
    (hQ : ∀ c a d v w, Q (.panic c) (Act.put a (some d) v) w → Q (.panic c) a w) (hS : S w.drew)
    (h : S w.drew → wpOT P l.toArray Q S (wpList P l.toArray Q (l.drop n)) (pickT l t) a w.drew) : (Code.region id l.toArray true).wp P Q a w := by
  simp only [goodT, Bool.and_eq_true, Bool.or_eq_true, decide_eq_true_eq] at hB
  obtain ⟨⟨⟨hsel, hb⟩, hlen⟩, hpl⟩ := hB
  have hb' : n = l.toArray.size ∨ (Region.sinkB .any l.toArray n = true ∧ Region.chainB .any l.toArray n = true ∧ n < l.toArray.size) := hb.imp (fun h => h) fun h => ⟨h.1.2, h.2, h.1.1⟩
  have hn : n ≤ l.toArray.size := by rcases hb' with h | h <;> omega
  have hn' : n ≤ l.length := by simpa using hn
  have hdl : (l.drop n).length = l.toArray.size - n := by simp
  have inv0 : HeadInv .any l.toArray n (Array.replicate l.toArray.size false) :=
    ⟨by simp, fun j oj _ hl => (by rw [getD_replicate_false] at hl; cases hl), fun t _ ht => getD_in (by simpa using ht) (getD_replicate_false _ _)⟩
  have H := wpAnyT_of_tree (md := .any) (g := l.toArray.size - n) hsel hb' hQ t _ a w.drew inv0 hpl hS (wpTree_of_OT t a w.drew hI (h hS))
  refine wp_region_any hm ?_
  have := wpAny_of_T (Q := Q) (g := l.toArray.size - n) (fun listed a' w' hL => by
    have := wpAny_of_seq (md := .any) (Q' := Q) (l.drop n) n listed a' w' (fun j => by simp [List.getElem?_drop]) (by rw [hdl]; exact hL.1) hL.2
    rwa [hdl] at this) _ _ _ _ H
  rw [hlen, show n + (l.toArray.size - n) = l.toArray.size by omega] at this
  exact this

theorem takeT {L : Act → World → Prop} {o : Oper} {v : Value} {r : OT} {a a' : Act} {w : World} (hw : Region.wanted o (yielded ops a.tmps) = true)
    (hy : ∀ w, S w → (execOp a.eval o).run P w = .ok (.value v) w) (hput : a.put o.dst v = a') (h : wpOT P ops Q S L r a' w) : wpOT P ops Q S L (.take o r) a w := ⟨v, .inl ⟨hw, hy⟩, hput ▸ h⟩
theorem stepT {L : Act → World → Prop} {o : Oper} {r : OT} {a : Act} {w : World}
    (h : wpList P ops (PlanPost Q (fun a w => S w ∧ wpOT P ops Q S L r a w)) [o] a w) : wpOT P ops Q S L (.step o r) a w := h
theorem forkT {L : Act → World → Prop} {o o' : Oper} {r s : OT} {a : Act} {w : World}
    (h : wpList P ops (PlanPost Q (fun a w => S w ∧ wpOT P ops Q S L r a w)) [o] a w) (g : wpList P ops (PlanPost Q (fun a w => S w ∧ wpOT P ops Q S L s a w)) [o'] a w) : wpOT P ops Q S L (.fork o o' r s) a w := ⟨h, g⟩
theorem finT {L : Act → World → Prop} {a : Act} {w : World} (h : L a w) : wpOT P ops Q S L .fin a w := h
end
end Go.Proofs.YtbbdmmhpbeleoaaGreatDoor.Plan
