/- Joined of PlanT, CoreZ. -/
import Derived.Test.YtpppoajnbhipeaaQ02
import Derived.Test.YtpppoajnbhipeaaQ06

/- The plan as a tree: where two operations may come up, both ways are walked. No program is named here. -/
namespace Go.Proofs.Ytpppoajnbhipeaa.Plan
open Go

inductive PT where
  | fin
  | take (i : Nat) (t : PT)
  | step (i : Nat) (t : PT)
  | fork (i j : Nat) (t u : PT)
def PT.len : PT → Nat
  | .fin => 0
  | .take _ t => t.len + 1
  | .step _ t => t.len + 1
  | .fork _ _ t _ => t.len + 1

section
variable {P : Program} {ops : Array Oper} {Q : Exit → Act → World → Prop} {md : Region.Mode} {S : World → Prop}

def treeB (md : Region.Mode) (ops : Array Oper) (n g : Nat) : PT → Array Bool → Bool
  | .fin, listed => Region.seqB md ops g n listed
  | .take i t, listed => decide (i < n) && (Region.ready md ops listed).contains i && Region.free md ops listed i && treeB md ops n g t (listed.setIfInBounds i true)
  | .step i t, listed => decide (i < n) && decide (Region.ready md ops listed = [i]) && treeB md ops n g t (listed.setIfInBounds i true)
  | .fork i j t u, listed => decide (i < n) && decide (j < n) && decide (Region.ready md ops listed = [i, j]) && decide (t.len = u.len) && treeB md ops n g t (listed.setIfInBounds i true) && treeB md ops n g u (listed.setIfInBounds j true)

def wpTree (P : Program) (ops : Array Oper) (Q : Exit → Act → World → Prop) (S : World → Prop) (L : Act → World → Prop) : PT → Act → World → Prop
  | .fin, a, w => L a w
  | .take i t, a, w => ∃ oi v, ops[i]? = some oi ∧ YieldsIf P ops S oi v a ∧ wpTree P ops Q S L t (a.put oi.dst v) w
  | .step i t, a, w => wpOp P ops Q i (fun a' w' => S w' ∧ wpTree P ops Q S L t a' w') a w
  | .fork i j t u, a, w => wpOp P ops Q i (fun a' w' => S w' ∧ wpTree P ops Q S L t a' w') a w ∧ wpOp P ops Q j (fun a' w' => S w' ∧ wpTree P ops Q S L u a' w') a w

theorem wpAnyT_of_tree {n g : Nat} {Lq : Act → World → Prop} (hsel : Region.noSelect ops = true) (hb : n = ops.size ∨ (Region.sinkB md ops n = true ∧ Region.chainB md ops n = true ∧ n < ops.size))
    (hQ : ∀ c a d v w, Q (.panic c) (Act.put a (some d) v) w → Q (.panic c) a w) :
    ∀ (t : PT) (listed : Array Bool) (a : Act) (w : World), HeadInv md ops n listed → treeB md ops n g t listed = true → S w → wpTree P ops Q S Lq t a w →
      wpAnyT P md ops Q S n (fun listed' a' w' => Region.seqB md ops g n listed' = true ∧ Lq a' w') t.len listed a w
  | .fin, listed, a, w, inv, hB, hS, h => ⟨by simpa [treeB] using hB, h⟩
  | .take i t, listed, a, w, inv, hB, hS, h => by
    simp only [treeB, Bool.and_eq_true, decide_eq_true_eq] at hB
    obtain ⟨⟨⟨hin, hr⟩, hf⟩, hB'⟩ := hB
    obtain ⟨oi, v, hoi, hy, hK⟩ := h
    have hr' : i ∈ Region.ready md ops listed := by simpa using hr
    exact wpAnyT_first hoi (Region.noSelect_spec hsel) hb hin (fun listed' a' w' hL => seqB_ready hL.1) (fun c a w h => by cases hd : oi.dst with | none => rw [hd] at h; exact h | some d => rw [hd] at h; exact hQ c a d _ w h) t.len listed a w inv (Region.free_spec hoi hf) hr' hy hS
      (wpAnyT_of_tree hsel hb hQ t _ _ w (inv.set hr' hin) hB' hS hK)
  | .step i t, listed, a, w, inv, hB, hS, h => by
    simp only [treeB, Bool.and_eq_true, decide_eq_true_eq] at hB
    obtain ⟨⟨hin, hr⟩, hB'⟩ := hB
    have hr' : i ∈ Region.ready md ops listed := by rw [hr]; simp
    refine ⟨fun h0 => (by rw [h0] at hr'; cases hr'), fun j hj => ?_⟩
    rw [hr] at hj
    have hji : j = i := by simpa using hj
    subst hji
    exact ⟨hin, wpOp_mono (fun a' w' h3 => ⟨h3.1, wpAnyT_of_tree hsel hb hQ t _ a' w' (inv.set hr' hin) hB' h3.1 h3.2⟩) h⟩
  | .fork i j t u, listed, a, w, inv, hB, hS, h => by
    simp only [treeB, Bool.and_eq_true, decide_eq_true_eq] at hB
    obtain ⟨⟨⟨⟨⟨hin, hjn⟩, hr⟩, hlen⟩, hB1⟩, hB2⟩ := hB
    have hri : i ∈ Region.ready md ops listed := by rw [hr]; simp
    have hrj : j ∈ Region.ready md ops listed := by rw [hr]; simp
    refine ⟨fun h0 => (by rw [h0] at hri; cases hri), fun k hk => ?_⟩
    rw [hr] at hk
    simp only [List.mem_cons, List.not_mem_nil, or_false] at hk
    rcases hk with rfl | rfl
    · exact ⟨hin, wpOp_mono (fun a' w' h3 => ⟨h3.1, wpAnyT_of_tree hsel hb hQ t _ a' w' (inv.set hri hin) hB1 h3.1 h3.2⟩) h.1⟩
    · refine ⟨hjn, wpOp_mono (fun a' w' h3 => ⟨h3.1, ?_⟩) h.2⟩
      have := wpAnyT_of_tree hsel hb hQ u _ a' w' (inv.set hrj hjn) hB2 h3.1 h3.2
      rw [← hlen] at this
      exact this

def goodT (md : Region.Mode) (ops : Array Oper) (n : Nat) (t : PT) : Bool :=
  Region.noSelect ops && (decide (n = ops.size) || (decide (n < ops.size) && Region.sinkB md ops n && Region.chainB md ops n)) && decide (t.len = n) && treeB md ops n (ops.size - n) t (Array.replicate ops.size false)

/-- The tree with its operations written out. -/
inductive OT where
  | fin
  | take (o : Oper) (t : OT)
  | step (o : Oper) (t : OT)
  | fork (o o' : Oper) (t u : OT)
def pickT (l : List Oper) : PT → OT
  | .fin => .fin
  | .take i t => .take ((l[i]?).getD ⟨none, .ready 0, 0, "", #[], none⟩) (pickT l t)
  | .step i t => .step ((l[i]?).getD ⟨none, .ready 0, 0, "", #[], none⟩) (pickT l t)
  | .fork i j t u => .fork ((l[i]?).getD ⟨none, .ready 0, 0, "", #[], none⟩) ((l[j]?).getD ⟨none, .ready 0, 0, "", #[], none⟩) (pickT l t) (pickT l u)
def inT (n : Nat) : PT → Bool
  | .fin => true
  | .take i t => decide (i < n) && inT n t
  | .step i t => decide (i < n) && inT n t
  | .fork i j t u => decide (i < n) && decide (j < n) && inT n t && inT n u
def wpOT (P : Program) (ops : Array Oper) (Q : Exit → Act → World → Prop) (S : World → Prop) (L : Act → World → Prop) : OT → Act → World → Prop
  | .fin, a, w => L a w
  | .take o t, a, w => ∃ v, YieldsIf P ops S o v a ∧ wpOT P ops Q S L t (a.put o.dst v) w
  | .step o t, a, w => wpList P ops (PlanPost Q (fun a w => S w ∧ wpOT P ops Q S L t a w)) [o] a w
  | .fork o o' t u, a, w => wpList P ops (PlanPost Q (fun a w => S w ∧ wpOT P ops Q S L t a w)) [o] a w ∧ wpList P ops (PlanPost Q (fun a w => S w ∧ wpOT P ops Q S L u a w)) [o'] a w

theorem wpOp_of_list {l : List Oper} {i : Nat} {K C : Act → World → Prop} (hi : i < l.length) (hK : ∀ a w, C a w → K a w) {a : Act} {w : World} (h : wpList P l.toArray (PlanPost Q C) [(l[i]?).getD ⟨none, .ready 0, 0, "", #[], none⟩] a w) : wpOp P l.toArray Q i K a w := by
  have ho : l[i]? = some l[i] := List.getElem?_eq_getElem hi
  have ho' : l.toArray[i]? = some l[i] := by simp
  simp only [ho, Option.getD_some, wpList] at h
  unfold wpOp
  simp only [ho']
  split
  · rename_i hw
    rw [if_pos hw] at h
    exact h.imp (fun h => Oper.wp_mono (fun a' w' h' => hK a' w' h') (Oper.wp_planPost h)) (fun h => h)
  · rename_i hw
    rw [if_neg hw] at h
    exact hK _ _ h

theorem wpTree_of_OT {l : List Oper} {L : Act → World → Prop} : ∀ (t : PT) (a : Act) (w : World), inT l.length t = true → wpOT P l.toArray Q S L (pickT l t) a w → wpTree P l.toArray Q S L t a w
  | .fin, _, _, _, h => h
  | .take i t, a, w, hB, h => by
    simp only [inT, Bool.and_eq_true, decide_eq_true_eq] at hB
    have ho : l[i]? = some l[i] := List.getElem?_eq_getElem hB.1
    simp only [pickT, ho, Option.getD_some, wpOT] at h
    obtain ⟨v, hy, hK⟩ := h
    exact ⟨l[i], v, by simp, hy, wpTree_of_OT t _ w hB.2 hK⟩
  | .step i t, a, w, hB, h => by
    simp only [inT, Bool.and_eq_true, decide_eq_true_eq] at hB
    exact wpOp_of_list hB.1 (fun a' w' h' => ⟨h'.1, wpTree_of_OT t a' w' hB.2 h'.2⟩) h
  | .fork i j t u, a, w, hB, h => by
    simp only [inT, Bool.and_eq_true, decide_eq_true_eq] at hB
    exact ⟨wpOp_of_list hB.1.1.1 (fun a' w' h' => ⟨h'.1, wpTree_of_OT t a' w' hB.1.2 h'.2⟩) h.1, wpOp_of_list hB.1.1.2 (fun a' w' h' => ⟨h'.1, wpTree_of_OT u a' w' hB.2 h'.2⟩) h.2⟩

/-- THE LAW. -/
theorem wp_region_tree {id : Nat} {a : Act} {w : World} {l : List Oper} (S : World → Prop) (n : Nat) (t : PT) (hm : P.follows .mixedOrders = true) (hB : goodT .any l.toArray n t = true) (hI : inT l.length t = true)
    (hQ : ∀ c a d v w, Q (.panic c) (Act.put a (some d) v) w → Q (.panic c) a w) (hS : S w.drew)
    (h : S w.drew → wpOT P l.toArray Q S (wpList P l.toArray Q (l.drop n)) (pickT l t) a w.drew) : (Code.region id l.toArray true).wp P Q a w := by
  simp only [goodT, Bool.and_eq_true, Bool.or_eq_true, decide_eq_true_eq] at hB
  obtain ⟨⟨⟨hsel, hb⟩, hlen⟩, hpl⟩ := hB
  have hb' : n = l.toArray.size ∨ (Region.sinkB .any l.toArray n = true ∧ Region.chainB .any l.toArray n = true ∧ n < l.toArray.size) := hb.imp (fun h => h) fun h => ⟨h.1.2, h.2, h.1.1⟩
  have hn : n ≤ l.toArray.size := by rcases hb' with h | h <;> omega
  have hn' : n ≤ l.length := by simpa using hn
  have hdl : (l.drop n).length = l.toArray.size - n := by simp
  have inv0 : HeadInv .any l.toArray n (Array.replicate l.toArray.size false) :=
    ⟨by simp, fun j oj _ hl => (by rw [getD_replicate_false] at hl; cases hl), fun t _ ht => getD_in (by simpa using ht) (getD_replicate_false _ _)⟩
  have H := wpAnyT_of_tree (md := .any) (g := l.toArray.size - n) hsel hb' hQ t _ a w.drew inv0 hpl hS (wpTree_of_OT t a w.drew hI (h hS))
  refine wp_region_any hm ?_
  have := wpAny_of_T (Q := Q) (g := l.toArray.size - n) (fun listed a' w' hL => by
    have := wpAny_of_seq (md := .any) (Q' := Q) (l.drop n) n listed a' w' (fun j => by simp [List.getElem?_drop]) (by rw [hdl]; exact hL.1) hL.2
    rwa [hdl] at this) _ _ _ _ H
  rw [hlen, show n + (l.toArray.size - n) = l.toArray.size by omega] at this
  exact this

theorem takeT {L : Act → World → Prop} {o : Oper} {v : Value} {r : OT} {a a' : Act} {w : World} (hw : Region.wanted o (yielded ops a.tmps) = true)
    (hy : ∀ w, S w → (execOp a.eval o).run P w = .ok (.value v) w) (hput : a.put o.dst v = a') (h : wpOT P ops Q S L r a' w) : wpOT P ops Q S L (.take o r) a w := ⟨v, .inl ⟨hw, hy⟩, hput ▸ h⟩
theorem stepT {L : Act → World → Prop} {o : Oper} {r : OT} {a : Act} {w : World}
    (h : wpList P ops (PlanPost Q (fun a w => S w ∧ wpOT P ops Q S L r a w)) [o] a w) : wpOT P ops Q S L (.step o r) a w := h
theorem forkT {L : Act → World → Prop} {o o' : Oper} {r s : OT} {a : Act} {w : World}
    (h : wpList P ops (PlanPost Q (fun a w => S w ∧ wpOT P ops Q S L r a w)) [o] a w) (g : wpList P ops (PlanPost Q (fun a w => S w ∧ wpOT P ops Q S L s a w)) [o'] a w) : wpOT P ops Q S L (.fork o o' r s) a w := ⟨h, g⟩
theorem finT {L : Act → World → Prop} {a : Act} {w : World} (h : L a w) : wpOT P ops Q S L .fin a w := h
end
end Go.Proofs.Ytpppoajnbhipeaa.Plan

/- Tick: nobody is asked yet; everybody is asked for a vote. -/
namespace Go.Proofs.Ytpppoajnbhipeaa
open Go Go.RowKit

theorem ret_slice {a : Option Addr} {n m q : Nat} (h : n = m) : Ending.returned (.slice a n q) = .returned (.slice a m q) := by rw [h]
theorem patience_ok {c : CoreD} (h : CoreOk c) (p : Int) : CoreOk { c with patience := p } :=
  { may := h.may, id := h.id, term := h.term, base := h.base, baseTerm := h.baseTerm, len := h.len, last := h.last, commit := h.commit, draw := h.draw, votes := h.votes, next := h.next, matc := h.matc, nexts := h.nexts, matcs := h.matcs, ents := h.ents, frm := h.frm, data := h.data, snap := h.snap }

set_option maxRecDepth 100000 in
set_option maxHeartbeats 1600000 in
theorem tick_wait (w : World) (B n : Nat) (c : CoreD) (lv sv : Value) (h : CoreAt w B n c lv sv) (hr : c.role ≠ 2) (hp : 0 ≤ c.patience ∧ c.patience ≤ 1000000000) (hw : c.patience + 1 < c.conf.lo + c.draw) :
    Calls Try.prog 38 #[.pointer (some ⟨n, 0, none⟩)] w fun e w' => e = .returned (.slice none 0 0) ∧ CoreAt w' B n { c with patience := c.patience + 1 } lv sv ∧ Keeps [n] w w' := by
  have hm := (ConfD.may_iff c.conf).1 h.ok.may
  have h3 : w.cell? ⟨n, 3, none⟩ = some (.int .i64 c.conf.lo) := h.blk.cell 3
  have h12 : w.cell? ⟨n, 12, none⟩ = some (.int .i64 c.role) := h.blk.cell 12
  have h19 : w.cell? ⟨n, 19, none⟩ = some (.int .i64 c.draw) := h.blk.cell 19
  have h20 : w.cell? ⟨n, 20, none⟩ = some (.int .i64 c.patience) := h.blk.cell 20
  have f20 : w.frozen? ⟨n, 20, none⟩ = false := h.blk.free 20
  have hlt := h.blk.lt
  obtain ⟨p0, p1⟩ := hp
  have l0 : 0 ≤ c.conf.lo := by omega
  have l1 : c.conf.lo ≤ 1000 := by omega
  have d0 := h.ok.draw.1
  have d1 := h.ok.draw.2
  have hrb : (c.role == 2) = false := by simpa using hr
  have hd : decide (c.patience + 1 < c.conf.lo + c.draw) = true := by simpa using hw
  have wr1 : IntKind.i64.wrap (c.conf.lo + c.draw) = c.conf.lo + c.draw := IntWalk.i64_in _ (by omega)
  have H := hid h
  have HF : Hid (∀ w1, Keeps [] w w1 → CoreAt (w1.setCell ⟨n, 20, none⟩ (.int .i64 (c.patience + 1))) B n { c with patience := c.patience + 1 } lv sv ∧ Keeps [n] w (w1.setCell ⟨n, 20, none⟩ (.int .i64 (c.patience + 1)))) := fun w1 k => by
    have k2 : Keeps [n] w1 (w1.setCell ⟨n, 20, none⟩ (.int .i64 (c.patience + 1))) := (Keeps.refl _ _).setCell (.inl (by simp)) _
    exact ⟨(h.k k).wrote k2 ((h.k k).blk.set 20 _ rfl) rfl rfl (patience_ok h.ok _), (k.mono (G := [n]) (fun _ _ h => by cases h)).trans k2 (fun _ _ h => h)⟩
  clear h hm hr
  go_enter Try.func38, Try.ntmps38
  go_wp2_with fail
  refine Plan.wp_region_plan (fun wx => wx.cell? ⟨w.heap.size, 0, none⟩ = some (.pointer (some ⟨n, 0, none⟩)) ∧ wx.cell? ⟨n, 20, none⟩ = some (.int .i64 (c.patience + 1)) ∧ wx.cell? ⟨n, 3, none⟩ = some (.int .i64 c.conf.lo) ∧ wx.cell? ⟨n, 19, none⟩ = some (.int .i64 c.draw)) 22 [(true, 0), (true, 1), (true, 2), (true, 3), (true, 4), (true, 5), (true, 6), (true, 7), (true, 8), (true, 9), (true, 10), (true, 11), (true, 12), (true, 13), (true, 14), (true, 15), (true, 16), (true, 17), (true, 18), (true, 19), (true, 20), (true, 21)] (by kernel_rfl) (by as_aux_lemma => kernel_rfl) (by kernel_rfl) (fun _ _ _ _ _ h => h) ?_ (fun hS => ?_)
  (· go_simp)
  simp only [Plan.pick, List.append_eq, List.cons_append, List.nil_append, Plan.g1, Plan.g2, Option.getD_some, List.drop_succ_cons, List.drop_zero]
  iterate 22 (first | refine Plan.tA ?_ | refine Plan.tY ?_ | refine Plan.pN ?_ | refine Plan.pU ?_ | fail)
  refine Plan.fin ?_
  clear wr1
  go_wp2_with fail
  go_ret
  exact ⟨rfl, (HF.out w (Keeps.refl [] w)).1.k ((Keeps.refl [] _).alloc _).drew, ((HF.out w (Keeps.refl [] w)).2.alloc _).drew⟩

theorem votes_cell {w : World} {n : Nat} {c : CoreD} {lv sv : Value} (h : CoreBlk w n c lv sv) (h8 : c.votes.length = 8) (i : Nat) (hi : i < 8) : ∃ b, w.cell? ⟨n, 21 + i, none⟩ = some (.bool b) := by
  refine ⟨c.votes[i], (h.cell _).trans ((get21 c lv sv i).trans ?_)⟩
  unfold tailCells bools
  rw [List.getElem?_append_left (by simp; omega)]
  simp
theorem votes_all {c : CoreD} {lv sv : Value} {w : World} {n : Nat} (h : CoreBlk w n c lv sv) (h8 : c.votes.length = 8) :
    CoreBlk ((((((((w.setCell ⟨n, 21, none⟩ (.bool false)).setCell ⟨n, 22, none⟩ (.bool false)).setCell ⟨n, 23, none⟩ (.bool false)).setCell ⟨n, 24, none⟩ (.bool false)).setCell ⟨n, 25, none⟩ (.bool false)).setCell ⟨n, 26, none⟩ (.bool false)).setCell ⟨n, 27, none⟩ (.bool false)).setCell ⟨n, 28, none⟩ (.bool false)) n { c with votes := List.replicate 8 false } lv sv := by
  have st : ∀ (w : World) (c : CoreD) (i : Nat), CoreBlk w n c lv sv → c.votes.length = 8 → i < 8 → CoreBlk (w.setCell ⟨n, 21 + i, none⟩ (.bool false)) n { c with votes := c.votes.set i false } lv sv := fun w c i h h8 hi => h.set (21 + i) _ (by rw [set21, tail_votes c h8 i hi]; rfl)
  have h1 := st _ _ 7 (st _ _ 6 (st _ _ 5 (st _ _ 4 (st _ _ 3 (st _ _ 2 (st _ _ 1 (st w c 0 h h8 (by omega)) (by simp [h8]) (by omega)) (by simp [h8]) (by omega)) (by simp [h8]) (by omega)) (by simp [h8]) (by omega)) (by simp [h8]) (by omega)) (by simp [h8]) (by omega)) (by simp [h8]) (by omega)
  have e : (((((((c.votes.set 0 false).set 1 false).set 2 false).set 3 false).set 4 false).set 5 false).set 6 false).set 7 false = List.replicate 8 false := by
    match c.votes, h8 with
    | [_, _, _, _, _, _, _, _], _ => rfl
  simp only [e] at h1
  exact h1

theorem runD_ok {c : CoreD} (h : CoreOk c) (ht : c.term < 1099511627776) : CoreOk (runD c) := by
  have h1 := risesD_ok (t := c.term + 1) (v := c.id) h ⟨by have := h.term; omega, by omega⟩
  exact { may := h.may, id := h.id, term := h1.term, base := h.base, baseTerm := h.baseTerm, len := h.len, last := h.last, commit := h.commit, draw := h.draw, votes := by simp [runD], next := h.next, matc := h.matc, nexts := h.nexts, matcs := h.matcs, ents := h.ents, frm := h.frm, data := h.data, snap := h.snap }

def run0 (c : CoreD) : CoreD := { risesD { c with patience := c.patience + 1 } (c.term + 1) c.id with role := 1, leader := 0, patience := 0, votes := List.replicate 8 false }
theorem run0_ok {c : CoreD} (h : CoreOk c) (ht : c.term < 1099511627776) : CoreOk (run0 c) := by
  have h1 := risesD_ok (t := c.term + 1) (v := c.id) h ⟨by have := h.term; omega, by omega⟩
  exact { may := h.may, id := h.id, term := h1.term, base := h.base, baseTerm := h.baseTerm, len := h.len, last := h.last, commit := h.commit, draw := h.draw, votes := by simp [run0], next := h.next, matc := h.matc, nexts := h.nexts, matcs := h.matcs, ents := h.ents, frm := h.frm, data := h.data, snap := h.snap }

set_option maxRecDepth 100000 in
set_option maxHeartbeats 3200000 in
theorem tick_run (w : World) (B n : Nat) (c : CoreD) (lv sv : Value) (h : CoreAt w B n c lv sv) (hr : c.role ≠ 2) (hp : 0 ≤ c.patience ∧ c.patience ≤ 1000000000) (hw : c.conf.lo + c.draw ≤ c.patience + 1) (ht : c.term < 1099511627776) :
    Calls Try.prog 38 #[.pointer (some ⟨n, 0, none⟩)] w fun e w' => ∃ a q, e = .returned (.slice a (othersD (runD c) (voteMsg (runD c))).length q) ∧ CoreAt w' B n (runD c) lv sv ∧ ListAt msgL w' (fun b => w.heap.size ≤ b) (.slice a (othersD (runD c) (voteMsg (runD c))).length q) (othersD (runD c) (voteMsg (runD c))) ∧ Keeps [n] w w' := by
  have hm := (ConfD.may_iff c.conf).1 h.ok.may
  have h3 : w.cell? ⟨n, 3, none⟩ = some (.int .i64 c.conf.lo) := h.blk.cell 3
  have h9 : w.cell? ⟨n, 9, none⟩ = some (.int .i64 c.id) := h.blk.cell 9
  have h10 : w.cell? ⟨n, 10, none⟩ = some (.int .i64 c.term) := h.blk.cell 10
  have h12 : w.cell? ⟨n, 12, none⟩ = some (.int .i64 c.role) := h.blk.cell 12
  have h19 : w.cell? ⟨n, 19, none⟩ = some (.int .i64 c.draw) := h.blk.cell 19
  have h20 : w.cell? ⟨n, 20, none⟩ = some (.int .i64 c.patience) := h.blk.cell 20
  have f20 : w.frozen? ⟨n, 20, none⟩ = false := h.blk.free 20
  have hlt := h.blk.lt
  obtain ⟨p0, p1⟩ := hp
  have l0 : 0 ≤ c.conf.lo := by omega
  have l1 : c.conf.lo ≤ 1000 := by omega
  have d0 := h.ok.draw.1
  have d1 := h.ok.draw.2
  have t0 := h.ok.term.1
  have hrb : (c.role == 2) = false := by simpa using hr
  have hd : decide (c.patience + 1 < c.conf.lo + c.draw) = false := by simpa using hw
  have hd2 : decide (1099511627776 ≤ c.term) = false := by simpa using ht
  have wr1 : IntKind.i64.wrap (c.conf.lo + c.draw) = c.conf.lo + c.draw := IntWalk.i64_in _ (by omega)
  have wr2 : IntKind.i64.wrap (c.term + 1) = c.term + 1 := IntWalk.i64_in _ (by omega)
  have H := hid h
  have HF : Hid (∀ w1, Keeps [] w w1 → CoreAt (w1.setCell ⟨n, 20, none⟩ (.int .i64 (c.patience + 1))) B n { c with patience := c.patience + 1 } lv sv ∧ Keeps [n] w (w1.setCell ⟨n, 20, none⟩ (.int .i64 (c.patience + 1)))) := fun w1 k => by
    have k2 : Keeps [n] w1 (w1.setCell ⟨n, 20, none⟩ (.int .i64 (c.patience + 1))) := (Keeps.refl _ _).setCell (.inl (by simp)) _
    exact ⟨(h.k k).wrote k2 ((h.k k).blk.set 20 _ rfl) rfl rfl (patience_ok h.ok _), (k.mono (G := [n]) (fun _ _ h => by cases h)).trans k2 (fun _ _ h => h)⟩
  clear h hm hr
  go_enter Try.func38, Try.ntmps38
  go_wp2_with fail
  refine Plan.wp_region_plan (fun wx => wx.cell? ⟨w.heap.size, 0, none⟩ = some (.pointer (some ⟨n, 0, none⟩)) ∧ wx.cell? ⟨n, 20, none⟩ = some (.int .i64 (c.patience + 1)) ∧ wx.cell? ⟨n, 3, none⟩ = some (.int .i64 c.conf.lo) ∧ wx.cell? ⟨n, 19, none⟩ = some (.int .i64 c.draw) ∧ wx.cell? ⟨n, 10, none⟩ = some (.int .i64 c.term)) 22 [(true, 0), (true, 1), (true, 2), (true, 3), (true, 4), (true, 5), (true, 6), (true, 7), (true, 8), (true, 9), (true, 10), (true, 11), (true, 12), (true, 13), (true, 14), (true, 15), (true, 16), (true, 17), (true, 18), (true, 19), (true, 20), (true, 21)] (by kernel_rfl) (by as_aux_lemma => kernel_rfl) (by kernel_rfl) (fun _ _ _ _ _ h => h) ?_ (fun hS => ?_)
  (· go_simp)
  simp only [Plan.pick, List.append_eq, List.cons_append, List.nil_append, Plan.g1, Plan.g2, Option.getD_some, List.drop_succ_cons, List.drop_zero]
  iterate 22 (first | refine Plan.tA ?_ | refine Plan.tY ?_ | refine Plan.pN ?_ | refine Plan.pU ?_ | fail)
  refine Plan.fin ?_
  clear wr1
  go_wp2_with fail
  refine Plan.wp_region_plan (fun wx => wx.cell? ⟨w.heap.size, 0, none⟩ = some (.pointer (some ⟨n, 0, none⟩)) ∧ wx.cell? ⟨n, 10, none⟩ = some (.int .i64 c.term) ∧ wx.cell? ⟨n, 9, none⟩ = some (.int .i64 c.id)) 10 [(true, 0), (true, 1), (true, 2), (true, 3), (true, 4), (true, 5), (true, 6), (true, 7), (true, 8), (true, 9)] (by kernel_rfl) (by as_aux_lemma => kernel_rfl) (by kernel_rfl) (fun _ _ _ _ _ h => h) ?_ (fun hS => ?_)
  (· go_simp)
  simp only [Plan.pick, List.append_eq, List.cons_append, List.nil_append, Plan.g1, Plan.g2, Option.getD_some, List.drop_succ_cons, List.drop_zero]
  iterate 10 (first | refine Plan.tA ?_ | refine Plan.tY ?_ | refine Plan.pN ?_ | refine Plan.pU ?_ | fail)
  refine Plan.fin ?_
  go_wp2_with fail
  refine (rises_any _ B n { c with patience := c.patience + 1 } lv sv (c.term + 1) c.id ((HF.out w (Keeps.refl [] w)).1.k (((Keeps.refl [] _).alloc _).drew.drew)) (by omega)).mono ?_
  rintro e w2 ⟨rfl, hc2, hk2⟩
  have K2 : Hid (Keeps [n] w w2) := ((((HF.out w (Keeps.refl [] w)).2.alloc _).drew).drew).trans hk2 (fun _ _ h => h)
  have xb : w2.cell? ⟨w.heap.size, 0, none⟩ = some (.pointer (some ⟨n, 0, none⟩)) := hk2.cellSome (by go_simp) (by simp; omega)
  have HZ : Hid (w.heap.size < w2.heap.size) := World.block_lt_of_cell? _ _ xb
  have C2 := hid hc2
  have x9 : w2.cell? ⟨n, 9, none⟩ = some (.int .i64 c.id) := hc2.blk.cell 9
  have x12 : w2.cell? ⟨n, 12, none⟩ = some (.int .i64 c.role) := hc2.blk.cell 12
  have x13 : w2.cell? ⟨n, 13, none⟩ = some (.int .i64 c.leader) := hc2.blk.cell 13
  have x20 : w2.cell? ⟨n, 20, none⟩ = some (.int .i64 (c.patience + 1)) := hc2.blk.cell 20
  have h8 : (risesD { c with patience := c.patience + 1 } (c.term + 1) c.id).votes.length = 8 := hc2.ok.votes
  obtain ⟨b0, x21⟩ : ∃ b, w2.cell? ⟨n, 21, none⟩ = some (.bool b) := votes_cell hc2.blk h8 0 (by omega)
  obtain ⟨b1, x22⟩ : ∃ b, w2.cell? ⟨n, 22, none⟩ = some (.bool b) := votes_cell hc2.blk h8 1 (by omega)
  obtain ⟨b2, x23⟩ : ∃ b, w2.cell? ⟨n, 23, none⟩ = some (.bool b) := votes_cell hc2.blk h8 2 (by omega)
  obtain ⟨b3, x24⟩ : ∃ b, w2.cell? ⟨n, 24, none⟩ = some (.bool b) := votes_cell hc2.blk h8 3 (by omega)
  obtain ⟨b4, x25⟩ : ∃ b, w2.cell? ⟨n, 25, none⟩ = some (.bool b) := votes_cell hc2.blk h8 4 (by omega)
  obtain ⟨b5, x26⟩ : ∃ b, w2.cell? ⟨n, 26, none⟩ = some (.bool b) := votes_cell hc2.blk h8 5 (by omega)
  obtain ⟨b6, x27⟩ : ∃ b, w2.cell? ⟨n, 27, none⟩ = some (.bool b) := votes_cell hc2.blk h8 6 (by omega)
  obtain ⟨b7, x28⟩ : ∃ b, w2.cell? ⟨n, 28, none⟩ = some (.bool b) := votes_cell hc2.blk h8 7 (by omega)
  clear h8
  have fz : ∀ i, w2.frozen? ⟨n, i, none⟩ = false := fun i => hc2.blk.free i
  have hnz : n ≠ w.heap.size := by omega
  clear hc2 hk2 h3 h9 h10 h12 h19 h20 f20 wr2
  go_wp2_with fail
  refine Plan.wp_region_plan (fun wx => wx.cell? ⟨w.heap.size, 0, none⟩ = some (.pointer (some ⟨n, 0, none⟩))) 9 [(true, 0), (true, 1), (true, 2), (true, 3), (true, 4), (false, 5), (true, 6), (true, 7), (false, 8)] (by kernel_rfl) (by as_aux_lemma => kernel_rfl) (by kernel_rfl) (fun _ _ _ _ _ h => h) ?_ (fun hS => ?_)
  (· exact xb)
  simp only [Plan.pick, List.append_eq, List.cons_append, List.nil_append, Plan.g1, Plan.g2, Option.getD_some, List.drop_succ_cons, List.drop_zero]
  iterate 5 (first | refine Plan.tA ?_ | refine Plan.tY ?_ | refine Plan.pN ?_ | refine Plan.pU ?_ | fail)
  refine Plan.step ?_
  go_wp2_with fail
  refine ⟨?_, ?_⟩
  (· go_simp)
  iterate 2 (first | refine Plan.tA ?_ | refine Plan.tY ?_ | refine Plan.pN ?_ | refine Plan.pU ?_ | fail)
  refine Plan.step ?_
  go_wp2_with fail
  refine ⟨?_, ?_⟩
  (· go_simp)
  refine Plan.fin ?_
  have HX : Hid (∃ w3, w3 = (((((((((((w2.setCell ⟨n, 12, none⟩ (.int .i64 1)).setCell ⟨n, 13, none⟩ (.int .i64 0)).setCell ⟨n, 20, none⟩ (.int .i64 0)).setCell ⟨n, 21, none⟩ (.bool false)).setCell ⟨n, 22, none⟩ (.bool false)).setCell ⟨n, 23, none⟩ (.bool false)).setCell ⟨n, 24, none⟩ (.bool false)).setCell ⟨n, 25, none⟩ (.bool false)).setCell ⟨n, 26, none⟩ (.bool false)).setCell ⟨n, 27, none⟩ (.bool false)).setCell ⟨n, 28, none⟩ (.bool false)) ∧ CoreAt w3 B n (run0 c) lv sv ∧ Keeps [n] w2 w3) := by
    have k : Keeps [n] w2 (((((((((((w2.setCell ⟨n, 12, none⟩ (.int .i64 1)).setCell ⟨n, 13, none⟩ (.int .i64 0)).setCell ⟨n, 20, none⟩ (.int .i64 0)).setCell ⟨n, 21, none⟩ (.bool false)).setCell ⟨n, 22, none⟩ (.bool false)).setCell ⟨n, 23, none⟩ (.bool false)).setCell ⟨n, 24, none⟩ (.bool false)).setCell ⟨n, 25, none⟩ (.bool false)).setCell ⟨n, 26, none⟩ (.bool false)).setCell ⟨n, 27, none⟩ (.bool false)).setCell ⟨n, 28, none⟩ (.bool false)) := by
      exact Keeps.K
    have hb := votes_all (((C2.out.blk.set (c' := { risesD { c with patience := c.patience + 1 } (c.term + 1) c.id with role := 1 }) 12 (.int .i64 1) rfl).set (c' := { risesD { c with patience := c.patience + 1 } (c.term + 1) c.id with role := 1, leader := 0 }) 13 (.int .i64 0) rfl).set (c' := { risesD { c with patience := c.patience + 1 } (c.term + 1) c.id with role := 1, leader := 0, patience := 0 }) 20 (.int .i64 0) rfl) C2.out.ok.votes
    exact ⟨_, rfl, C2.out.wrote k hb rfl rfl (run0_ok H.out.ok ht), k⟩
  go_wp2_with fail
  obtain ⟨w3, hw3, hc3, hk3⟩ := HX.out
  rw [← hw3]
  have C3 := hid hc3
  have K3 : Hid (Keeps [n] w w3) := K2.out.trans hk3 (fun _ _ h => h)
  have yb := hk3.cellSome xb (by simp; omega)
  have y9 : w3.cell? ⟨n, 9, none⟩ = some (.int .i64 c.id) := hc3.blk.cell 9
  have i1 : 1 ≤ c.id := H.out.ok.id.1
  have i7 : c.id ≤ 7 := by have h1 := H.out.ok.id.2; have h2 := ((ConfD.may_iff c.conf).1 H.out.ok.may).1.2; omega
  obtain ⟨bv, yv⟩ : ∃ b, w3.cell? ⟨n, 21 + c.id.toNat, none⟩ = some (.bool b) := votes_cell hc3.blk hc3.ok.votes _ (by omega)
  have yf : w3.frozen? ⟨n, 21 + c.id.toNat, none⟩ = false := hc3.blk.free _
  clear hw3 hk3 hc3 HX fz xb x9 x12 x13 x20 x21 x22 x23 x24 x25 x26 x27 x28
  refine Plan.wp_region_plan (fun wx => wx.cell? ⟨w.heap.size, 0, none⟩ = some (.pointer (some ⟨n, 0, none⟩)) ∧ wx.cell? ⟨n, 9, none⟩ = some (.int .i64 c.id)) 7 [(true, 0), (true, 1), (true, 2), (true, 3), (true, 4), (true, 5), (true, 6)] (by kernel_rfl) (by as_aux_lemma => kernel_rfl) (by kernel_rfl) (fun _ _ _ _ _ h => h) ?_ (fun hS => ?_)
  (· exact ⟨yb, y9⟩)
  simp only [Plan.pick, List.append_eq, List.cons_append, List.nil_append, Plan.g1, Plan.g2, Option.getD_some, List.drop_succ_cons, List.drop_zero]
  iterate 7 (first | refine Plan.tA ?_ | refine Plan.tY ?_ | refine Plan.pN ?_ | refine Plan.pU ?_ | fail)
  refine Plan.fin ?_
  have HY : Hid (∃ w4, w4 = w3.setCell ⟨n, 21 + c.id.toNat, none⟩ (.bool true) ∧ CoreAt w4 B n (runD c) lv sv ∧ Keeps [n] w3 w4) := by
    have k : Keeps [n] w3 (w3.setCell ⟨n, 21 + c.id.toNat, none⟩ (.bool true)) := (Keeps.refl _ _).setCell (.inl (by simp)) _
    refine ⟨_, rfl, C3.out.wrote k (C3.out.blk.set _ _ ?_) rfl rfl (runD_ok H.out.ok ht), k⟩
    rw [set21, tail_votes (run0 c) C3.out.ok.votes _ (by omega)]
    rfl
  go_wp2_with fail
  obtain ⟨w4, hw4, hc4, hk4⟩ := HY.out
  rw [← hw4]
  have C4 := hid hc4
  have K4 : Hid (Keeps [n] w w4) := K3.out.trans hk4 (fun _ _ h => h)
  have zb := hk4.cellSome yb (by simp; omega)
  have lb1 : 0 ≤ lastD (runD c) := by have := hc4.ok.base.1; unfold lastD; omega
  have lb2 : lastD (runD c) ≤ 2199023255552 := by have := hc4.ok.last; unfold lastD; omega
  have hzb : w.heap.size < w4.heap.size := World.block_lt_of_cell? _ _ zb
  clear hw4 hk4 hc4 HY yb y9 yv yf
  have ZB : Hid (∀ wx, Keeps [] w4 wx → wx.cell? ⟨w.heap.size, 0, none⟩ = some (.pointer (some ⟨n, 0, none⟩))) := fun wx k => k.cellSome zb (by simp)
  have za : ∀ q, ((w4.drewN q).alloc (.cells #[.int .i64 0] 3)).cell? ⟨w.heap.size, 0, none⟩ = some (.pointer (some ⟨n, 0, none⟩)) := fun q => ZB.out _ (((Keeps.refl [] w4).drewN q).alloc _)
  have al1 : ∀ q, ((w4.drewN q).alloc (.cells #[.int .i64 0] 3)).cell? ⟨w4.heap.size, 0, none⟩ = some (.int .i64 0) := fun q => cell_of_block (heap_alloc_new (w4.drewN q) _) 0
  have al2 : ∀ q, ((w4.drewN q).alloc (.cells #[.int .i64 0] 3)).frozen? ⟨w4.heap.size, 0, none⟩ = false := fun q => frozen_of_row _ _ 0 _ _ (heap_alloc_new (w4.drewN q) _)
  refine Plan.wp_region_tree (fun wx => wx.cell? ⟨w.heap.size, 0, none⟩ = some (.pointer (some ⟨n, 0, none⟩))) 10 (.take 0 (.take 1 (.fork 2 7 (.fork 3 7 (.take 4 (.take 5 (.take 6 (.step 7 (.step 8 (.take 9 .fin)))))) (.step 3 (.take 4 (.take 5 (.take 6 (.step 8 (.take 9 .fin))))))) (.step 2 (.step 3 (.take 4 (.take 5 (.take 6 (.step 8 (.take 9 .fin)))))))))) (by kernel_rfl) (by as_aux_lemma => kernel_rfl) (by kernel_rfl) (fun _ _ _ _ _ h => h) ?_ (fun hS => ?_)
  (· exact zb)
  simp only [Plan.pickT, List.append_eq, List.cons_append, List.nil_append, Plan.g1, Plan.g2, Option.getD_some, List.drop_succ_cons, List.drop_zero]
  iterate 2 (refine Plan.takeT (v := ?_) (a' := ?_) (Plan.want_all (by rfl)) ?_ ?_ ?_; rotate_left 2; (· intro w' hS'; (try dsimp only at hS'); go_simp; try with_reducible rfl); (· simp only [Act.put, Plan.l1, Plan.l2, Plan.l3]; try with_reducible rfl))
  refine Plan.forkT ?_ ?_
  rotate_left 1
  go_wp2_with fail
  refine ⟨?_, ?_⟩
  (· exact ZB.out _ (by exact Keeps.K))
  refine Plan.stepT ?_
  go_wp2_with fail
  refine (cLast_any _ B n (runD c) lv sv (C4.out.k ?_)).mono ?_
  (· exact Keeps.K)
  rintro e w' ⟨rfl, kk, rfl⟩
  go_wp2_with fail
  refine ⟨?_, ?_⟩
  (· exact ZB.out _ (by exact Keeps.K))
  refine Plan.stepT ?_
  go_wp2_with fail
  refine (cAt_any _ B n (runD c) lv sv (C4.out.k ?_) (lastD (runD c)) (by omega) (by omega)).mono ?_
  (· exact Keeps.K)
  rintro e w' ⟨rfl, kk, rfl⟩
  go_wp2_with fail
  refine ⟨?_, ?_⟩
  (· exact ZB.out _ (by exact Keeps.K))
  iterate 3 (refine Plan.takeT (v := ?_) (a' := ?_) (Plan.want_all (by rfl)) ?_ ?_ ?_; rotate_left 2; (· intro w' hS'; (try dsimp only at hS'); go_simp; try with_reducible rfl); (· simp only [Act.put, Plan.l1, Plan.l2, Plan.l3]; try with_reducible rfl))
  refine Plan.stepT ?_
  go_wp2_with fail
  refine ⟨?_, ?_⟩
  (· exact ZB.out _ (by exact Keeps.K))
  iterate 1 (refine Plan.takeT (v := ?_) (a' := ?_) (Plan.want_all (by rfl)) ?_ ?_ ?_; rotate_left 2; (· intro w' hS'; (try dsimp only at hS'); go_simp; try with_reducible rfl); (· simp only [Act.put, Plan.l1, Plan.l2, Plan.l3]; try with_reducible rfl))
  refine Plan.finT ?_
  rotate_left 1
  go_wp2_with fail
  refine (cLast_any _ B n (runD c) lv sv (C4.out.k ?_)).mono ?_
  (· exact Keeps.K)
  rintro e w' ⟨rfl, kk, rfl⟩
  go_wp2_with fail
  refine ⟨?_, ?_⟩
  (· exact ZB.out _ (by exact Keeps.K))
  refine Plan.forkT ?_ ?_
  rotate_left 1
  go_wp2_with fail
  refine ⟨?_, ?_⟩
  (· exact ZB.out _ (by exact Keeps.K))
  refine Plan.stepT ?_
  go_wp2_with fail
  refine (cAt_any _ B n (runD c) lv sv (C4.out.k ?_) (lastD (runD c)) (by omega) (by omega)).mono ?_
  (· exact Keeps.K)
  rintro e w' ⟨rfl, kk, rfl⟩
  go_wp2_with fail
  refine ⟨?_, ?_⟩
  (· exact ZB.out _ (by exact Keeps.K))
  iterate 3 (refine Plan.takeT (v := ?_) (a' := ?_) (Plan.want_all (by rfl)) ?_ ?_ ?_; rotate_left 2; (· intro w' hS'; (try dsimp only at hS'); go_simp; try with_reducible rfl); (· simp only [Act.put, Plan.l1, Plan.l2, Plan.l3]; try with_reducible rfl))
  refine Plan.stepT ?_
  go_wp2_with fail
  refine ⟨?_, ?_⟩
  (· exact ZB.out _ (by exact Keeps.K))
  iterate 1 (refine Plan.takeT (v := ?_) (a' := ?_) (Plan.want_all (by rfl)) ?_ ?_ ?_; rotate_left 2; (· intro w' hS'; (try dsimp only at hS'); go_simp; try with_reducible rfl); (· simp only [Act.put, Plan.l1, Plan.l2, Plan.l3]; try with_reducible rfl))
  refine Plan.finT ?_
  rotate_left 2
  go_wp2_with fail
  refine (cAt_any _ B n (runD c) lv sv (C4.out.k ?_) (lastD (runD c)) (by omega) (by omega)).mono ?_
  (· exact Keeps.K)
  rintro e w' ⟨rfl, kk, rfl⟩
  go_wp2_with fail
  refine ⟨?_, ?_⟩
  (· exact ZB.out _ (by exact Keeps.K))
  iterate 3 (refine Plan.takeT (v := ?_) (a' := ?_) (Plan.want_all (by rfl)) ?_ ?_ ?_; rotate_left 2; (· intro w' hS'; (try dsimp only at hS'); go_simp; try with_reducible rfl); (· simp only [Act.put, Plan.l1, Plan.l2, Plan.l3]; try with_reducible rfl))
  refine Plan.stepT ?_
  go_wp2_with fail
  refine ⟨?_, ?_⟩
  (· exact ZB.out _ (by exact Keeps.K))
  refine Plan.stepT ?_
  go_wp2_with fail
  refine ⟨?_, ?_⟩
  (· exact ZB.out _ (by exact Keeps.K))
  iterate 1 (refine Plan.takeT (v := ?_) (a' := ?_) (Plan.want_all (by rfl)) ?_ ?_ ?_; rotate_left 2; (· intro w' hS'; (try dsimp only at hS'); go_simp; try with_reducible rfl); (· simp only [Act.put, Plan.l1, Plan.l2, Plan.l3]; try with_reducible rfl))
  refine Plan.finT ?_
  all_goals
    go_wp2_with fail
    refine (others_vote _ B n w.heap.size w4.heap.size (runD c) lv sv (atD (runD c) (lastD (runD c))).1 (C4.out.k ?_) ?_ ?_).mono ?_
    (· exact Keeps.K)
    (· exact ZB.out _ (by exact Keeps.K))
    (· go_simp)
    rintro e w5 ⟨a5, q5, rfl, h5, k5⟩
    have C5 := hid ((C4.out.k (by exact Keeps.K)).k k5)
    have hz4 : w.heap.size ≤ w4.heap.size := by omega
    have KA : Keeps [n] w4 w5 := (Keeps.mono (G := [n]) (F := []) (by exact Keeps.K) (fun _ _ h => by cases h)).trans k5 (fun _ _ h => by cases h)
    have K5 := hid (K4.out.trans KA (fun _ _ h => h))
    have H5 := hid (OwnAt.list (P' := fun b => w.heap.size ≤ b) h5 (fun b _ hb => Nat.le_trans (by simp; omega) hb.1) (fun b hb => Nat.le_trans (by simp; omega) (OwnAt.ge h5 b hb).1))
    clear h5 k5 KA
    go_wp2_with fail
    go_ret
    exact ⟨a5, q5, ret_slice (by simp [othersD]), C5.out, H5.out, K5.out⟩

end Go.Proofs.Ytpppoajnbhipeaa
