/- Joined of PlanT, PlanU, Law, LawL, LawE, NtZ. -/
import Derived.Test.YtgjiahilbmeaeaaGreatDoorQ02
import Derived.Test.YtgjiahilbmeaeaaGreatDoorRows
import Derived.Test.YtgjiahilbmeaeaaGreatDoorQ00
import Derived.ProofKit
import Derived.Test.YtgjiahilbmeaeaaGreatDoorR00
import Derived.Test.YtgjiahilbmeaeaaGreatDoorTie
import Derived.Test.YtgjiahilbmeaeaaGreatDoorCards
import Derived.Lib.LaidU8
import Derived.OpenShut
import Derived.LaidMore
import Derived.Lay
import Derived.SevenTiedAt
import Derived.Stop.Joined
import Derived.LaidLaws
set_option maxRecDepth 100000
set_option maxHeartbeats 80000000
set_option linter.unusedSimpArgs false
set_option linter.unusedVariables false
/- The plan as a tree: where two operations may come up, both ways are walked. No program is named here. -/
namespace Go.Proofs.YtgjiahilbmeaeaaGreatDoor.Plan
open Go
inductive PT where
 | fin
 | take (i : Nat) (t : PT)
 | step (i : Nat) (t : PT)
 | fork (i j : Nat) (t u : PT)
def PT.len : PT → Nat
 | .fin => 0
 | .take _ t => t.len + 1
 | .step _ t => t.len + 1
 | .fork _ _ t _ => t.len + 1
section
variable {P : Program} {ops : Array Oper} {Q : Exit → Act → World → Prop} {md : Region.Mode} {S : World → Prop}
def treeB (md : Region.Mode) (ops : Array Oper) (n g : Nat) : PT → Array Bool → Bool
 | .fin, listed => Region.seqB md ops g n listed
 | .take i t, listed => decide (i < n) && (Region.ready md ops listed).contains i && Region.free md ops listed i && treeB md ops n g t (listed.setIfInBounds i true)
 | .step i t, listed => decide (i < n) && decide (Region.ready md ops listed = [i]) && treeB md ops n g t (listed.setIfInBounds i true)
 | .fork i j t u, listed => decide (i < n) && decide (j < n) && decide (Region.ready md ops listed = [i, j]) && decide (t.len = u.len) && treeB md ops n g t (listed.setIfInBounds i true) && treeB md ops n g u (listed.setIfInBounds j true)
def wpTree (P : Program) (ops : Array Oper) (Q : Exit → Act → World → Prop) (S : World → Prop) (L : Act → World → Prop) : PT → Act → World → Prop
 | .fin, a, w => L a w
 | .take i t, a, w => ∃ oi v, ops[i]? = some oi ∧ YieldsIf P ops S oi v a ∧ wpTree P ops Q S L t (a.put oi.dst v) w
 | .step i t, a, w => wpOp P ops Q i (fun a' w' => S w' ∧ wpTree P ops Q S L t a' w') a w
 | .fork i j t u, a, w => wpOp P ops Q i (fun a' w' => S w' ∧ wpTree P ops Q S L t a' w') a w ∧ wpOp P ops Q j (fun a' w' => S w' ∧ wpTree P ops Q S L u a' w') a w
theorem wpAnyT_of_tree {n g : Nat} {Lq : Act → World → Prop} (hsel : Region.noSelect ops = true) (hb : n = ops.size ∨ (Region.sinkB md ops n = true ∧ Region.chainB md ops n = true ∧ n < ops.size))
 (hQ : ∀ c a d v w, Q (.panic c) (Act.put a (some d) v) w → Q (.panic c) a w) :
 ∀ (t : PT) (listed : Array Bool) (a : Act) (w : World), HeadInv md ops n listed → treeB md ops n g t listed = true → S w → wpTree P ops Q S Lq t a w →
   wpAnyT P md ops Q S n (fun listed' a' w' => Region.seqB md ops g n listed' = true ∧ Lq a' w') t.len listed a w
 | .fin, listed, a, w, inv, hB, hS, h => ⟨by simpa [treeB] using hB, h⟩
 | .take i t, listed, a, w, inv, hB, hS, h => by
   simp only [treeB, Bool.and_eq_true, decide_eq_true_eq] at hB
   obtain ⟨⟨⟨hin, hr⟩, hf⟩, hB'⟩ := hB
   obtain ⟨oi, v, hoi, hy, hK⟩ := h
   have hr' : i ∈ Region.ready md ops listed := by simpa using hr
   exact wpAnyT_first hoi (Region.noSelect_spec hsel) hb hin (fun listed' a' w' hL => seqB_ready hL.1) (fun c a w h => by cases hd : oi.dst with | none => rw [hd] at h; exact h | some d => rw [hd] at h; exact hQ c a d _ w h) t.len listed a w inv (Region.free_spec hoi hf) hr' hy hS
    (wpAnyT_of_tree hsel hb hQ t _ _ w (inv.set hr' hin) hB' hS hK)
 | .step i t, listed, a, w, inv, hB, hS, h => by
   simp only [treeB, Bool.and_eq_true, decide_eq_true_eq] at hB
   obtain ⟨⟨hin, hr⟩, hB'⟩ := hB
   have hr' : i ∈ Region.ready md ops listed := by rw [hr]; simp
   refine ⟨fun h0 => (by rw [h0] at hr'; cases hr'), fun j hj => ?_⟩
   rw [hr] at hj
   have hji : j = i := by simpa using hj
   subst hji
   exact ⟨hin, wpOp_mono (fun a' w' h3 => ⟨h3.1, wpAnyT_of_tree hsel hb hQ t _ a' w' (inv.set hr' hin) hB' h3.1 h3.2⟩) h⟩
 | .fork i j t u, listed, a, w, inv, hB, hS, h => by
   simp only [treeB, Bool.and_eq_true, decide_eq_true_eq] at hB
   obtain ⟨⟨⟨⟨⟨hin, hjn⟩, hr⟩, hlen⟩, hB1⟩, hB2⟩ := hB
   have hri : i ∈ Region.ready md ops listed := by rw [hr]; simp
   have hrj : j ∈ Region.ready md ops listed := by rw [hr]; simp
   refine ⟨fun h0 => (by rw [h0] at hri; cases hri), fun k hk => ?_⟩
   rw [hr] at hk
   simp only [List.mem_cons, List.not_mem_nil, or_false] at hk
   rcases hk with rfl | rfl
   ·exact ⟨hin, wpOp_mono (fun a' w' h3 => ⟨h3.1, wpAnyT_of_tree hsel hb hQ t _ a' w' (inv.set hri hin) hB1 h3.1 h3.2⟩) h.1⟩
   ·refine ⟨hjn, wpOp_mono (fun a' w' h3 => ⟨h3.1, ?_⟩) h.2⟩
    have := wpAnyT_of_tree hsel hb hQ u _ a' w' (inv.set hrj hjn) hB2 h3.1 h3.2
    rw [← hlen] at this
    exact this
def goodT (md : Region.Mode) (ops : Array Oper) (n : Nat) (t : PT) : Bool :=
 Region.noSelect ops && (decide (n = ops.size) || (decide (n < ops.size) && Region.sinkB md ops n && Region.chainB md ops n)) && decide (t.len = n) && treeB md ops n (ops.size - n) t (Array.replicate ops.size false)
inductive OT where
 | fin
 | take (o : Oper) (t : OT)
 | step (o : Oper) (t : OT)
 | fork (o o' : Oper) (t u : OT)
def pickT (l : List Oper) : PT → OT
 | .fin => .fin
 | .take i t => .take ((l[i]?).getD ⟨none, .ready 0, 0, "", #[], none⟩) (pickT l t)
 | .step i t => .step ((l[i]?).getD ⟨none, .ready 0, 0, "", #[], none⟩) (pickT l t)
 | .fork i j t u => .fork ((l[i]?).getD ⟨none, .ready 0, 0, "", #[], none⟩) ((l[j]?).getD ⟨none, .ready 0, 0, "", #[], none⟩) (pickT l t) (pickT l u)
def inT (n : Nat) : PT → Bool
 | .fin => true
 | .take i t => decide (i < n) && inT n t
 | .step i t => decide (i < n) && inT n t
 | .fork i j t u => decide (i < n) && decide (j < n) && inT n t && inT n u
def wpOT (P : Program) (ops : Array Oper) (Q : Exit → Act → World → Prop) (S : World → Prop) (L : Act → World → Prop) : OT → Act → World → Prop
 | .fin, a, w => L a w
 | .take o t, a, w => ∃ v, YieldsIf P ops S o v a ∧ wpOT P ops Q S L t (a.put o.dst v) w
 | .step o t, a, w => wpList P ops (PlanPost Q (fun a w => S w ∧ wpOT P ops Q S L t a w)) [o] a w
 | .fork o o' t u, a, w => wpList P ops (PlanPost Q (fun a w => S w ∧ wpOT P ops Q S L t a w)) [o] a w ∧ wpList P ops (PlanPost Q (fun a w => S w ∧ wpOT P ops Q S L u a w)) [o'] a w
theorem wpOp_of_list {l : List Oper} {i : Nat} {K C : Act → World → Prop} (hi : i < l.length) (hK : ∀ a w, C a w → K a w) {a : Act} {w : World} (h : wpList P l.toArray (PlanPost Q C) [(l[i]?).getD ⟨none, .ready 0, 0, "", #[], none⟩] a w) : wpOp P l.toArray Q i K a w := by
 have ho : l[i]? = some l[i] := List.getElem?_eq_getElem hi
 have ho' : l.toArray[i]? = some l[i] := by simp
 simp only [ho, Option.getD_some, wpList] at h
 unfold wpOp
 simp only [ho']
 split
 ·rename_i hw
  rw [if_pos hw] at h
  exact h.imp (fun h => Oper.wp_mono (fun a' w' h' => hK a' w' h') (Oper.wp_planPost h)) (fun h => h)
 ·rename_i hw
  rw [if_neg hw] at h
  exact hK _ _ h
theorem wpTree_of_OT {l : List Oper} {L : Act → World → Prop} : ∀ (t : PT) (a : Act) (w : World), inT l.length t = true → wpOT P l.toArray Q S L (pickT l t) a w → wpTree P l.toArray Q S L t a w
 | .fin, _, _, _, h => h
 | .take i t, a, w, hB, h => by
   simp only [inT, Bool.and_eq_true, decide_eq_true_eq] at hB
   have ho : l[i]? = some l[i] := List.getElem?_eq_getElem hB.1
   simp only [pickT, ho, Option.getD_some, wpOT] at h
   obtain ⟨v, hy, hK⟩ := h
   exact ⟨l[i], v, by simp, hy, wpTree_of_OT t _ w hB.2 hK⟩
 | .step i t, a, w, hB, h => by
   simp only [inT, Bool.and_eq_true, decide_eq_true_eq] at hB
   exact wpOp_of_list hB.1 (fun a' w' h' => ⟨h'.1, wpTree_of_OT t a' w' hB.2 h'.2⟩) h
 | .fork i j t u, a, w, hB, h => by
   simp only [inT, Bool.and_eq_true, decide_eq_true_eq] at hB
   exact ⟨wpOp_of_list hB.1.1.1 (fun a' w' h' => ⟨h'.1, wpTree_of_OT t a' w' hB.1.2 h'.2⟩) h.1, wpOp_of_list hB.1.1.2 (fun a' w' h' => ⟨h'.1, wpTree_of_OT u a' w' hB.2 h'.2⟩) h.2⟩
theorem wp_region_tree {id : Nat} {a : Act} {w : World} {l : List Oper} (S : World → Prop) (n : Nat) (t : PT) (hm : P.follows .mixedOrders = true) (hB : goodT .any l.toArray n t = true) (hI : inT l.length t = true)
 (hQ : ∀ c a d v w, Q (.panic c) (Act.put a (some d) v) w → Q (.panic c) a w) (hS : S w.drew)
 (h : S w.drew → wpOT P l.toArray Q S (wpList P l.toArray Q (l.drop n)) (pickT l t) a w.drew) : (Code.region id l.toArray true).wp P Q a w := by
 simp only [goodT, Bool.and_eq_true, Bool.or_eq_true, decide_eq_true_eq] at hB
 obtain ⟨⟨⟨hsel, hb⟩, hlen⟩, hpl⟩ := hB
 have hb' : n = l.toArray.size ∨ (Region.sinkB .any l.toArray n = true ∧ Region.chainB .any l.toArray n = true ∧ n < l.toArray.size) := hb.imp (fun h => h) fun h => ⟨h.1.2, h.2, h.1.1⟩
 have hn : n ≤ l.toArray.size := by rcases hb' with h | h <;> omega
 have hn' : n ≤ l.length := by simpa using hn
 have hdl : (l.drop n).length = l.toArray.size - n := by simp
 have inv0 : HeadInv .any l.toArray n (Array.replicate l.toArray.size false) :=
  ⟨by simp, fun j oj _ hl => (by rw [getD_replicate_false] at hl; cases hl), fun t _ ht => getD_in (by simpa using ht) (getD_replicate_false _ _)⟩
 have H := wpAnyT_of_tree (md := .any) (g := l.toArray.size - n) hsel hb' hQ t _ a w.drew inv0 hpl hS (wpTree_of_OT t a w.drew hI (h hS))
 refine wp_region_any hm ?_
 have := wpAny_of_T (Q := Q) (g := l.toArray.size - n) (fun listed a' w' hL => by
  have := wpAny_of_seq (md := .any) (Q' := Q) (l.drop n) n listed a' w' (fun j => by simp [List.getElem?_drop]) (by rw [hdl]; exact hL.1) hL.2
  rwa [hdl] at this) _ _ _ _ H
 rw [hlen, show n + (l.toArray.size - n) = l.toArray.size by omega] at this
 exact this
theorem takeT {L : Act → World → Prop} {o : Oper} {v : Value} {r : OT} {a a' : Act} {w : World} (hw : Region.wanted o (yielded ops a.tmps) = true)
 (hy : ∀ w, S w → (execOp a.eval o).run P w = .ok (.value v) w) (hput : a.put o.dst v = a') (h : wpOT P ops Q S L r a' w) : wpOT P ops Q S L (.take o r) a w := ⟨v, .inl ⟨hw, hy⟩, hput ▸ h⟩
theorem stepT {L : Act → World → Prop} {o : Oper} {r : OT} {a : Act} {w : World}
 (h : wpList P ops (PlanPost Q (fun a w => S w ∧ wpOT P ops Q S L r a w)) [o] a w) : wpOT P ops Q S L (.step o r) a w := h
theorem forkT {L : Act → World → Prop} {o o' : Oper} {r s : OT} {a : Act} {w : World}
 (h : wpList P ops (PlanPost Q (fun a w => S w ∧ wpOT P ops Q S L r a w)) [o] a w) (g : wpList P ops (PlanPost Q (fun a w => S w ∧ wpOT P ops Q S L s a w)) [o'] a w) : wpOT P ops Q S L (.fork o o' r s) a w := ⟨h, g⟩
theorem finT {L : Act → World → Prop} {a : Act} {w : World} (h : L a w) : wpOT P ops Q S L .fin a w := h
end
end Go.Proofs.YtgjiahilbmeaeaaGreatDoor.Plan
/- The plan as a tree where three operations may come up at once, too. No program is named here. -/
namespace Go.Proofs.YtgjiahilbmeaeaaGreatDoor.PlanU
open Go Go.Proofs.YtgjiahilbmeaeaaGreatDoor.Plan
inductive PT where
 | fin
 | take (i : Nat) (t : PT)
 | step (i : Nat) (t : PT)
 | fork (i j : Nat) (t u : PT)
 | fork3 (i j k : Nat) (t u v : PT)
def PT.len : PT → Nat
 | .fin => 0
 | .take _ t => t.len + 1
 | .step _ t => t.len + 1
 | .fork _ _ t _ => t.len + 1
 | .fork3 _ _ _ t _ _ => t.len + 1
section
variable {P : Program} {ops : Array Oper} {Q : Exit → Act → World → Prop} {md : Region.Mode} {S : World → Prop}
def treeB (md : Region.Mode) (ops : Array Oper) (n g : Nat) : PT → Array Bool → Bool
 | .fin, listed => Region.seqB md ops g n listed
 | .take i t, listed => decide (i < n) && (Region.ready md ops listed).contains i && Region.free md ops listed i && treeB md ops n g t (listed.setIfInBounds i true)
 | .step i t, listed => decide (i < n) && decide (Region.ready md ops listed = [i]) && treeB md ops n g t (listed.setIfInBounds i true)
 | .fork i j t u, listed => decide (i < n) && decide (j < n) && decide (Region.ready md ops listed = [i, j]) && decide (t.len = u.len) && treeB md ops n g t (listed.setIfInBounds i true) && treeB md ops n g u (listed.setIfInBounds j true)
 | .fork3 i j k t u v, listed => decide (i < n) && decide (j < n) && decide (k < n) && decide (Region.ready md ops listed = [i, j, k]) && decide (t.len = u.len) && decide (t.len = v.len) && treeB md ops n g t (listed.setIfInBounds i true) && treeB md ops n g u (listed.setIfInBounds j true) && treeB md ops n g v (listed.setIfInBounds k true)
def wpTree (P : Program) (ops : Array Oper) (Q : Exit → Act → World → Prop) (S : World → Prop) (L : Act → World → Prop) : PT → Act → World → Prop
 | .fin, a, w => L a w
 | .take i t, a, w => ∃ oi v, ops[i]? = some oi ∧ YieldsIf P ops S oi v a ∧ wpTree P ops Q S L t (a.put oi.dst v) w
 | .step i t, a, w => wpOp P ops Q i (fun a' w' => S w' ∧ wpTree P ops Q S L t a' w') a w
 | .fork i j t u, a, w => wpOp P ops Q i (fun a' w' => S w' ∧ wpTree P ops Q S L t a' w') a w ∧ wpOp P ops Q j (fun a' w' => S w' ∧ wpTree P ops Q S L u a' w') a w
 | .fork3 i j k t u v, a, w => wpOp P ops Q i (fun a' w' => S w' ∧ wpTree P ops Q S L t a' w') a w ∧ wpOp P ops Q j (fun a' w' => S w' ∧ wpTree P ops Q S L u a' w') a w ∧ wpOp P ops Q k (fun a' w' => S w' ∧ wpTree P ops Q S L v a' w') a w
theorem wpAnyT_of_tree {n g : Nat} {Lq : Act → World → Prop} (hsel : Region.noSelect ops = true) (hb : n = ops.size ∨ (Region.sinkB md ops n = true ∧ Region.chainB md ops n = true ∧ n < ops.size))
 (hQ : ∀ c a d v w, Q (.panic c) (Act.put a (some d) v) w → Q (.panic c) a w) :
 ∀ (t : PT) (listed : Array Bool) (a : Act) (w : World), HeadInv md ops n listed → treeB md ops n g t listed = true → S w → wpTree P ops Q S Lq t a w →
   wpAnyT P md ops Q S n (fun listed' a' w' => Region.seqB md ops g n listed' = true ∧ Lq a' w') t.len listed a w
 | .fin, listed, a, w, inv, hB, hS, h => ⟨by simpa [treeB] using hB, h⟩
 | .take i t, listed, a, w, inv, hB, hS, h => by
   simp only [treeB, Bool.and_eq_true, decide_eq_true_eq] at hB
   obtain ⟨⟨⟨hin, hr⟩, hf⟩, hB'⟩ := hB
   obtain ⟨oi, v, hoi, hy, hK⟩ := h
   have hr' : i ∈ Region.ready md ops listed := by simpa using hr
   exact wpAnyT_first hoi (Region.noSelect_spec hsel) hb hin (fun listed' a' w' hL => seqB_ready hL.1) (fun c a w h => by cases hd : oi.dst with | none => rw [hd] at h; exact h | some d => rw [hd] at h; exact hQ c a d _ w h) t.len listed a w inv (Region.free_spec hoi hf) hr' hy hS
    (wpAnyT_of_tree hsel hb hQ t _ _ w (inv.set hr' hin) hB' hS hK)
 | .step i t, listed, a, w, inv, hB, hS, h => by
   simp only [treeB, Bool.and_eq_true, decide_eq_true_eq] at hB
   obtain ⟨⟨hin, hr⟩, hB'⟩ := hB
   have hr' : i ∈ Region.ready md ops listed := by rw [hr]; simp
   refine ⟨fun h0 => (by rw [h0] at hr'; cases hr'), fun j hj => ?_⟩
   rw [hr] at hj
   have hji : j = i := by simpa using hj
   subst hji
   exact ⟨hin, wpOp_mono (fun a' w' h3 => ⟨h3.1, wpAnyT_of_tree hsel hb hQ t _ a' w' (inv.set hr' hin) hB' h3.1 h3.2⟩) h⟩
 | .fork i j t u, listed, a, w, inv, hB, hS, h => by
   simp only [treeB, Bool.and_eq_true, decide_eq_true_eq] at hB
   obtain ⟨⟨⟨⟨⟨hin, hjn⟩, hr⟩, hlen⟩, hB1⟩, hB2⟩ := hB
   have hri : i ∈ Region.ready md ops listed := by rw [hr]; simp
   have hrj : j ∈ Region.ready md ops listed := by rw [hr]; simp
   refine ⟨fun h0 => (by rw [h0] at hri; cases hri), fun k hk => ?_⟩
   rw [hr] at hk
   simp only [List.mem_cons, List.not_mem_nil, or_false] at hk
   rcases hk with rfl | rfl
   ·exact ⟨hin, wpOp_mono (fun a' w' h3 => ⟨h3.1, wpAnyT_of_tree hsel hb hQ t _ a' w' (inv.set hri hin) hB1 h3.1 h3.2⟩) h.1⟩
   ·refine ⟨hjn, wpOp_mono (fun a' w' h3 => ⟨h3.1, ?_⟩) h.2⟩
    have := wpAnyT_of_tree hsel hb hQ u _ a' w' (inv.set hrj hjn) hB2 h3.1 h3.2
    rw [← hlen] at this
    exact this
 | .fork3 i j k t u v, listed, a, w, inv, hB, hS, h => by
   simp only [treeB, Bool.and_eq_true, decide_eq_true_eq] at hB
   obtain ⟨⟨⟨⟨⟨⟨⟨⟨hin, hjn⟩, hkn⟩, hr⟩, hlen⟩, hlen2⟩, hB1⟩, hB2⟩, hB3⟩ := hB
   have hri : i ∈ Region.ready md ops listed := by rw [hr]; simp
   have hrj : j ∈ Region.ready md ops listed := by rw [hr]; simp
   have hrk : k ∈ Region.ready md ops listed := by rw [hr]; simp
   refine ⟨fun h0 => (by rw [h0] at hri; cases hri), fun l hl => ?_⟩
   rw [hr] at hl
   simp only [List.mem_cons, List.not_mem_nil, or_false] at hl
   rcases hl with rfl | rfl | rfl
   ·exact ⟨hin, wpOp_mono (fun a' w' h3 => ⟨h3.1, wpAnyT_of_tree hsel hb hQ t _ a' w' (inv.set hri hin) hB1 h3.1 h3.2⟩) h.1⟩
   ·refine ⟨hjn, wpOp_mono (fun a' w' h3 => ⟨h3.1, ?_⟩) h.2.1⟩
    have := wpAnyT_of_tree hsel hb hQ u _ a' w' (inv.set hrj hjn) hB2 h3.1 h3.2
    rw [← hlen] at this
    exact this
   ·refine ⟨hkn, wpOp_mono (fun a' w' h3 => ⟨h3.1, ?_⟩) h.2.2⟩
    have := wpAnyT_of_tree hsel hb hQ v _ a' w' (inv.set hrk hkn) hB3 h3.1 h3.2
    rw [← hlen2] at this
    exact this
def goodT (md : Region.Mode) (ops : Array Oper) (n : Nat) (t : PT) : Bool :=
 Region.noSelect ops && (decide (n = ops.size) || (decide (n < ops.size) && Region.sinkB md ops n && Region.chainB md ops n)) && decide (t.len = n) && treeB md ops n (ops.size - n) t (Array.replicate ops.size false)
inductive OT where
 | fin
 | take (o : Oper) (t : OT)
 | step (o : Oper) (t : OT)
 | fork (o o' : Oper) (t u : OT)
 | fork3 (o o' o2 : Oper) (t u v : OT)
def pickT (l : List Oper) : PT → OT
 | .fin => .fin
 | .take i t => .take ((l[i]?).getD ⟨none, .ready 0, 0, "", #[], none⟩) (pickT l t)
 | .step i t => .step ((l[i]?).getD ⟨none, .ready 0, 0, "", #[], none⟩) (pickT l t)
 | .fork i j t u => .fork ((l[i]?).getD ⟨none, .ready 0, 0, "", #[], none⟩) ((l[j]?).getD ⟨none, .ready 0, 0, "", #[], none⟩) (pickT l t) (pickT l u)
 | .fork3 i j k t u v => .fork3 ((l[i]?).getD ⟨none, .ready 0, 0, "", #[], none⟩) ((l[j]?).getD ⟨none, .ready 0, 0, "", #[], none⟩) ((l[k]?).getD ⟨none, .ready 0, 0, "", #[], none⟩) (pickT l t) (pickT l u) (pickT l v)
def inT (n : Nat) : PT → Bool
 | .fin => true
 | .take i t => decide (i < n) && inT n t
 | .step i t => decide (i < n) && inT n t
 | .fork i j t u => decide (i < n) && decide (j < n) && inT n t && inT n u
 | .fork3 i j k t u v => decide (i < n) && decide (j < n) && decide (k < n) && inT n t && inT n u && inT n v
def wpOT (P : Program) (ops : Array Oper) (Q : Exit → Act → World → Prop) (S : World → Prop) (L : Act → World → Prop) : OT → Act → World → Prop
 | .fin, a, w => L a w
 | .take o t, a, w => ∃ v, YieldsIf P ops S o v a ∧ wpOT P ops Q S L t (a.put o.dst v) w
 | .step o t, a, w => wpList P ops (PlanPost Q (fun a w => S w ∧ wpOT P ops Q S L t a w)) [o] a w
 | .fork o o' t u, a, w => wpList P ops (PlanPost Q (fun a w => S w ∧ wpOT P ops Q S L t a w)) [o] a w ∧ wpList P ops (PlanPost Q (fun a w => S w ∧ wpOT P ops Q S L u a w)) [o'] a w
 | .fork3 o o' o2 t u v, a, w => wpList P ops (PlanPost Q (fun a w => S w ∧ wpOT P ops Q S L t a w)) [o] a w ∧ wpList P ops (PlanPost Q (fun a w => S w ∧ wpOT P ops Q S L u a w)) [o'] a w ∧ wpList P ops (PlanPost Q (fun a w => S w ∧ wpOT P ops Q S L v a w)) [o2] a w
theorem wpTree_of_OT {l : List Oper} {L : Act → World → Prop} : ∀ (t : PT) (a : Act) (w : World), inT l.length t = true → wpOT P l.toArray Q S L (pickT l t) a w → wpTree P l.toArray Q S L t a w
 | .fin, _, _, _, h => h
 | .take i t, a, w, hB, h => by
   simp only [inT, Bool.and_eq_true, decide_eq_true_eq] at hB
   have ho : l[i]? = some l[i] := List.getElem?_eq_getElem hB.1
   simp only [pickT, ho, Option.getD_some, wpOT] at h
   obtain ⟨v, hy, hK⟩ := h
   exact ⟨l[i], v, by simp, hy, wpTree_of_OT t _ w hB.2 hK⟩
 | .step i t, a, w, hB, h => by
   simp only [inT, Bool.and_eq_true, decide_eq_true_eq] at hB
   exact wpOp_of_list hB.1 (fun a' w' h' => ⟨h'.1, wpTree_of_OT t a' w' hB.2 h'.2⟩) h
 | .fork i j t u, a, w, hB, h => by
   simp only [inT, Bool.and_eq_true, decide_eq_true_eq] at hB
   exact ⟨wpOp_of_list hB.1.1.1 (fun a' w' h' => ⟨h'.1, wpTree_of_OT t a' w' hB.1.2 h'.2⟩) h.1, wpOp_of_list hB.1.1.2 (fun a' w' h' => ⟨h'.1, wpTree_of_OT u a' w' hB.2 h'.2⟩) h.2⟩
 | .fork3 i j k t u v, a, w, hB, h => by
   simp only [inT, Bool.and_eq_true, decide_eq_true_eq] at hB
   exact ⟨wpOp_of_list hB.1.1.1.1.1 (fun a' w' h' => ⟨h'.1, wpTree_of_OT t a' w' hB.1.1.2 h'.2⟩) h.1, wpOp_of_list hB.1.1.1.1.2 (fun a' w' h' => ⟨h'.1, wpTree_of_OT u a' w' hB.1.2 h'.2⟩) h.2.1, wpOp_of_list hB.1.1.1.2 (fun a' w' h' => ⟨h'.1, wpTree_of_OT v a' w' hB.2 h'.2⟩) h.2.2⟩
theorem wp_region_tree {id : Nat} {a : Act} {w : World} {l : List Oper} (S : World → Prop) (n : Nat) (t : PT) (hm : P.follows .mixedOrders = true) (hB : goodT .any l.toArray n t = true) (hI : inT l.length t = true)
 (hQ : ∀ c a d v w, Q (.panic c) (Act.put a (some d) v) w → Q (.panic c) a w) (hS : S w.drew)
 (h : S w.drew → wpOT P l.toArray Q S (wpList P l.toArray Q (l.drop n)) (pickT l t) a w.drew) : (Code.region id l.toArray true).wp P Q a w := by
 simp only [goodT, Bool.and_eq_true, Bool.or_eq_true, decide_eq_true_eq] at hB
 obtain ⟨⟨⟨hsel, hb⟩, hlen⟩, hpl⟩ := hB
 have hb' : n = l.toArray.size ∨ (Region.sinkB .any l.toArray n = true ∧ Region.chainB .any l.toArray n = true ∧ n < l.toArray.size) := hb.imp (fun h => h) fun h => ⟨h.1.2, h.2, h.1.1⟩
 have hn : n ≤ l.toArray.size := by rcases hb' with h | h <;> omega
 have hn' : n ≤ l.length := by simpa using hn
 have hdl : (l.drop n).length = l.toArray.size - n := by simp
 have inv0 : HeadInv .any l.toArray n (Array.replicate l.toArray.size false) :=
  ⟨by simp, fun j oj _ hl => (by rw [getD_replicate_false] at hl; cases hl), fun t _ ht => getD_in (by simpa using ht) (getD_replicate_false _ _)⟩
 have H := wpAnyT_of_tree (md := .any) (g := l.toArray.size - n) hsel hb' hQ t _ a w.drew inv0 hpl hS (wpTree_of_OT t a w.drew hI (h hS))
 refine wp_region_any hm ?_
 have := wpAny_of_T (Q := Q) (g := l.toArray.size - n) (fun listed a' w' hL => by
  have := wpAny_of_seq (md := .any) (Q' := Q) (l.drop n) n listed a' w' (fun j => by simp [List.getElem?_drop]) (by rw [hdl]; exact hL.1) hL.2
  rwa [hdl] at this) _ _ _ _ H
 rw [hlen, show n + (l.toArray.size - n) = l.toArray.size by omega] at this
 exact this
theorem takeT {L : Act → World → Prop} {o : Oper} {v : Value} {r : OT} {a a' : Act} {w : World} (hw : Region.wanted o (yielded ops a.tmps) = true)
 (hy : ∀ w, S w → (execOp a.eval o).run P w = .ok (.value v) w) (hput : a.put o.dst v = a') (h : wpOT P ops Q S L r a' w) : wpOT P ops Q S L (.take o r) a w := ⟨v, .inl ⟨hw, hy⟩, hput ▸ h⟩
theorem stepT {L : Act → World → Prop} {o : Oper} {r : OT} {a : Act} {w : World}
 (h : wpList P ops (PlanPost Q (fun a w => S w ∧ wpOT P ops Q S L r a w)) [o] a w) : wpOT P ops Q S L (.step o r) a w := h
theorem forkT {L : Act → World → Prop} {o o' : Oper} {r s : OT} {a : Act} {w : World}
 (h : wpList P ops (PlanPost Q (fun a w => S w ∧ wpOT P ops Q S L r a w)) [o] a w) (g : wpList P ops (PlanPost Q (fun a w => S w ∧ wpOT P ops Q S L s a w)) [o'] a w) : wpOT P ops Q S L (.fork o o' r s) a w := ⟨h, g⟩
theorem fork3T {L : Act → World → Prop} {o o' o2 : Oper} {r s q : OT} {a : Act} {w : World}
 (h : wpList P ops (PlanPost Q (fun a w => S w ∧ wpOT P ops Q S L r a w)) [o] a w) (g : wpList P ops (PlanPost Q (fun a w => S w ∧ wpOT P ops Q S L s a w)) [o'] a w) (f : wpList P ops (PlanPost Q (fun a w => S w ∧ wpOT P ops Q S L q a w)) [o2] a w) : wpOT P ops Q S L (.fork3 o o' o2 r s q) a w := ⟨h, g, f⟩
theorem finT {L : Act → World → Prop} {a : Act} {w : World} (h : L a w) : wpOT P ops Q S L .fin a w := h
end
end Go.Proofs.YtgjiahilbmeaeaaGreatDoor.PlanU
/- THE FRAME OF A LAW: a call that answers true and leaves all that was there as it was makes the row. No function is named here. -/
namespace Go.Proofs.YtgjiahilbmeaeaaGreatDoor
open Go Go.RowKit Go.WideShapes Go.ChangeShapes Go.ChangeAt
theorem Tryz.own : ownKnob Tryz.prog.godebug = none := by kernel_rfl
theorem Tryz.laidOut : laidOutB Tryz.prog = true := by kernel_rfl
section
variable {H : Type} {enc : TypeId × Value → H} {P : Program}
theorem below_trodAll (hl : laidOutB P = true) {W W' : World} (hb : Below W.heap.size W W') (sp : Nat → Bool) : ∀ (ts : List TypeId) (vs : List Value) (ds : List (DataW H)) (ps : List MemPlace),
 (ts.all fun t => P.readableRec t && decide (t < P.types.size)) = true → DataW.TrodAll enc P W 0 (fun _ => true) true ts vs ds ps → (∀ p ∈ ps, p.block < W.heap.size) → (∀ p ∈ ps, sp p.block = true) → DataW.TrodAll enc P W' 0 sp true ts vs ds ps
 | [], [], [], _, _, h, _, _ => h
 | t :: ts, v :: vs, d :: ds, ps, hr, h, hlt, hsp => by
   obtain ⟨p, q, h1, h2, rfl⟩ := h
   simp only [List.all_cons, Bool.and_eq_true, decide_eq_true_eq] at hr
   exact ⟨p, q, WideElems.Trod_stays hl hr.1.1 hr.1.2 h1 (fun x hx => hb.same (hlt x (List.mem_append_left _ hx))) (fun x hx => hsp x (List.mem_append_left _ hx)),
    below_trodAll hl hb sp ts vs ds q hr.2 h2 (fun x hx => hlt x (List.mem_append_right _ hx)) (fun x hx => hsp x (List.mem_append_right _ hx)), rfl⟩
 | [], [], _ :: _, _, _, h, _, _ => h.elim
 | [], _ :: _, _, _, _, h, _, _ => h.elim
 | _ :: _, [], _, _, _, h, _, _ => h.elim
 | _ :: _, _ :: _, [], _, _, h, _, _ => h.elim
theorem trodAll_length {W : World} {sp : Nat → Bool} {b : Nat} {hd : Bool} : ∀ (ts : List TypeId) (vs : List Value) (ds : List (DataW H)) (ps : List MemPlace), DataW.TrodAll enc P W b sp hd ts vs ds ps → ds.length = ts.length
 | [], [], [], _, _ => rfl
 | t :: ts, v :: vs, d :: ds, ps, h => by
   obtain ⟨p, q, _, h2, _⟩ := h
   simp [trodAll_length ts vs ds q h2]
 | [], [], _ :: _, _, h => h.elim
 | [], _ :: _, _, _, h => h.elim
 | _ :: _, [], _, _, h => h.elim
 | _ :: _, _ :: _, [], _, h => h.elim
theorem law_post {f : Func} {s : ChangeSpec} {tb : TypeId} {fresh handsOn : Bool} {W W' : World} {args : Array Value} {ds gs : List (DataW H)} {before : List MemPlace} (hl : laidOutB P = true) (htb : P.underlying tb = some .bool) (hres : f.resultTypes = #[tb])
 (hvars : s.vars = []) (hall : (f.params.toList.all fun t => P.readableRec t && decide (t < P.types.size)) = true) (hspec : ∀ ds : List (DataW H), ds.length = f.params.size → s.fn H ds = { results := [.lit (.bool true)], args := ds })
 (hW : DataW.Whole enc P f.params.toList s.vars false W args.toList ds gs before) (hb : Below W.heap.size W W') : s.post enc P f false fresh handsOn false W args (.bool true) W' := by
 have hlt : ∀ p ∈ before, p.block < W.heap.size := fun p hp => hW.lt p hp
 have hold : ∀ p ∈ before, (fun b => decide (b < W.heap.size)) p.block = true := fun p hp => by simpa using hlt p hp
 have hW' := hW
 obtain ⟨p, q, hA, hV, rfl, hz, hn⟩ := hW
 rw [hvars] at hV
 obtain ⟨rfl, rfl⟩ := trodVars_none hV
 have hln : ds.length = f.params.size := by rw [trodAll_length _ _ _ _ hA]; simp
 have hsp : s.fn H (ds ++ []) = { results := [.lit (.bool true)], args := ds } := by rw [List.append_nil]; exact hspec ds hln
 rw [List.append_nil] at hlt hold hW'
 refine ⟨ds, [], p, [], p, [], hW', ?_, ?_, ?_, World.keptBut_mono (fun x hx => ⟨hx, by simpa using hx⟩) (hb.frame (· ∈ p)), fun h => by cases h⟩
 ·rw [hsp, hres]
  exact trodAll_mk1 (shut_bool htb true)
 ·rw [hsp]
  exact below_trodAll hl hb _ _ _ _ _ hall hA hlt hold
 ·rw [hvars]
  have e : (s.fn H (ds ++ [])).vars = [] := by rw [hsp]
  rw [e]
  rfl
end
theorem Tryz.u8Extra : U8Extra Tryz.prog Tryz.lays260_ren := { n3 := by kernel_rfl, n4 := by kernel_rfl, y3 := by kernel_rfl, y4 := by kernel_rfl, c5 := by kernel_rfl, c119 := by kernel_rfl, c138 := by kernel_rfl }
theorem first_data : Rows.laid_unicode_utf8_first = Lib.firstData := by kernel_rfl
theorem accept_data : (Rows.laid_unicode_utf8_acceptRanges : DataW Unit) = Lib.acceptData := by kernel_rfl
theorem pow_data : (Rows.laid_internal_strconv_uint64pow10 : DataW Unit) = Lib.tabData .u64 Lib.pow10Tab := by kernel_rfl
theorem tabs_of_laid {l : List (String × DataW Unit)} {W : World} (h : laidMet Tryz.prog l W) (h1 : ("unicode/utf8.first", Rows.laid_unicode_utf8_first) ∈ l) (h2 : ("unicode/utf8.acceptRanges", Rows.laid_unicode_utf8_acceptRanges) ∈ l) (h3 : ("internal/strconv.uint64pow10", Rows.laid_internal_strconv_uint64pow10) ∈ l) : Tabs W := by
 rw [first_data] at h1
 rw [accept_data] at h2
 rw [pow_data] at h3
 refine ⟨utf8Tabs_of_reads Tryz.lays260 Tryz.u8Extra (Lib.laidMet.reads h h1) (Lib.laidMet.reads h h2), ?_⟩
 obtain ⟨g, t, cs, fuel, p, hg, hty, hvar, hd⟩ := Lib.laidMet.reads h h3
 obtain rfl := Option.some.inj ((show Tryz.prog.globalNamed "internal/strconv.uint64pow10" = some 5 by kernel_rfl).symm.trans hg)
 obtain rfl := Option.some.inj ((show (Tryz.prog.globals[5]?).map (·.type) = some 421 by kernel_rfl).symm.trans hty)
 unfold Lib.TabIs
 rw [hvar, ← Lib.cells_of_tab Tryz.underlying421 Tryz.underlying222 (by kernel_rfl) (by kernel_rfl) hd]
theorem laid_lifted {k : FuncId} {fn : Func} {s : ChangeSpec} {fresh handsOn : Bool} {l : List (String × DataW Unit)} (os : Os) (started : os.Started) (H : Type) (enc : TypeId × Value → H)
 (noInit : Tryz.checked.prog.inits.idxOf? k = none) (hfn : Tryz.checked.prog.funcs[k]? = some fn) (hres : fn.resultTypes = #[4]) (hvars : s.vars = []) (hall : (fn.params.toList.all fun t => Tryz.prog.readableRec t && decide (t < Tryz.prog.types.size)) = true)
 (hspec : ∀ ds : List (DataW H), ds.length = fn.params.size → s.fn H ds = { results := [.lit (.bool true)], args := ds })
 (witness : ∃ (w : World) (tape : Tape) (i : Input), w.os = os ∧ (w.forCall tape i).Shaped Tryz.checked.prog ∧ i.vars = [] ∧ Input.okWide Tryz.checked.prog (w.forCall tape i) .any w.heap.size k i ∧
  ((s.pre enc Tryz.checked.prog fn [] false (w.forCall tape i).memory i.args ∧ laidMetH Tryz.prog l (w.forCall tape i).memory) ∧ sizedMet enc Tryz.checked.prog fn (OpenSpec.ofChange s) false (w.forCall tape i).memory i.args) ∧ ({} : Assume).holds Tryz.checked.prog (lone (Frame.enter Tryz.checked.prog k i.args .normal) [] (w.forCall tape i)))
 (contract : ∀ (W : World) (base : Nat) (args : Array Value) (ds : List (DataW H)) (p : List MemPlace), (∀ (j : Nat) t v, fn.params[j]? = some t → args[j]? = some v → Value.okWide Tryz.prog W .any base t v) →
  DataW.TrodAll enc Tryz.prog W 0 (fun _ => true) true fn.params.toList args.toList ds p → (∀ x ∈ p, x.block < W.heap.size) → laidMetH Tryz.prog l W → Calls Tryz.prog k args W fun e W' => e = .returned (.bool true) ∧ Below W.heap.size W W') :
 ReturnsInHanded {} Tryz.checked os k .any (fun w args => (s.pre enc Tryz.prog fn [] false w args ∧ laidMetH Tryz.prog l w) ∧ sizedMet enc Tryz.prog fn (OpenSpec.ofChange s) false w args) (s.post enc Tryz.prog fn false fresh handsOn false) := by
 refine returnsInHanded_of_change_and (C := Tryz.checked) (X := fun w _ => laidMetH Tryz.prog l w) (fun _ _ _ hh h => h.of_heap hh) Tryz.own started noInit hfn witness ?_
 intro W base args ds gs before hval0 hW hc _ hL _
 have hlt : ∀ x ∈ before, x.block < W.heap.size := fun x hx => hW.lt x hx
 have hW' := hW
 obtain ⟨p, q, hA, hV, rfl, hz, hn⟩ := hW
 refine (contract W base args ds p hval0 hA (fun x hx => hlt x (List.mem_append_left _ hx)) hL).mono fun e W' ⟨he, hb⟩ => ?_
 subst he
 exact ⟨_, rfl, law_post Tryz.laidOut Tryz.underlying4 hres hvars hall hspec hW' hb⟩
theorem err_of_laid {l : List (String × DataW Unit)} {W : World} (h : laidMet Tryz.prog l W) {nm : String} {x : DataW Unit} {g : Nat} (hg : Tryz.prog.globalNamed nm = some g) (ht : (Tryz.prog.globals[g]?).map (·.type) = some 285) (hm : (nm, .iface "*errors.errorString" x) ∈ l) : ∃ tp p, W.var? Tryz.prog nm = some #[.iface tp p] := by
 obtain ⟨g', t, cs, fuel, p, hg', hty, hvar, hd⟩ := Lib.laidMet.reads h hm
 obtain rfl := Option.some.inj (hg.symm.trans hg')
 obtain rfl := Option.some.inj (ht.symm.trans hty)
 obtain ⟨_, u, v, hc, _⟩ := iface_of_trod Tryz.underlying285 hd
 refine ⟨u, v, ?_⟩
 rw [hvar]
 congr 1
 exact Array.toList_inj.1 hc
theorem errs_of_laid {l : List (String × DataW Unit)} {W : World} (h : laidMet Tryz.prog l W) (h1 : ("strconv.ErrSyntax", Rows.laid_strconv_ErrSyntax) ∈ l) (h2 : ("strconv.ErrRange", Rows.laid_strconv_ErrRange) ∈ l) : Errs W :=
 ⟨err_of_laid h (g := 0) (by kernel_rfl) (by kernel_rfl) h1, err_of_laid h (g := 1) (by kernel_rfl) (by kernel_rfl) h2⟩
end Go.Proofs.YtgjiahilbmeaeaaGreatDoor
/- The closed facts of NodeTells' row, one by one. -/
namespace Go.Proofs.YtgjiahilbmeaeaaGreatDoor
open Go Go.RowKit
theorem and_i {a b : Bool} (h1 : a = true) (h2 : b = true) : (a && b) = true := by rw [h1, h2]; rfl
theorem closedF : joinedFacts Tryz.checked.prog 3 Tryz.f3 Rows.nodeTellsSpec Rows.nodeTellsRow = true := by
 unfold joinedFacts
 iterate 40 (all_goals (try (with_reducible refine and_i ?_ ?_)))
 all_goals (as_aux_lemma => kernel_rfl)
end Go.Proofs.YtgjiahilbmeaeaaGreatDoor