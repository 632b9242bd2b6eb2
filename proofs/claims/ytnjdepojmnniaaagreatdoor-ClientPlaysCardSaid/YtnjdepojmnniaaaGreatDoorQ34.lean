/- Joined of PlanT, ClH, PutA. -/
import Derived.Test.YtnjdepojmnniaaaGreatDoorQ02
import Derived.Test.YtnjdepojmnniaaaGreatDoorQ33
import Derived.Test.YtnjdepojmnniaaaGreatDoorQ30

set_option linter.unusedSimpArgs false
set_option linter.unusedVariables false

/- The plan as a tree: where two operations may come up, both ways are walked. No program is named here. -/
namespace Go.Proofs.YtnjdepojmnniaaaGreatDoor.Plan
open Go

inductive PT where
  | fin
  | take (i : Nat) (t : PT)
  | step (i : Nat) (t : PT)
  | fork (i j : Nat) (t u : PT)
def PT.len : PT → Nat
  | .fin => 0
  | .take _ t => t.len + 1
  | .step _ t => t.len + 1
  | .fork _ _ t _ => t.len + 1

section
variable {P : Program} {ops : Array Oper} {Q : Exit → Act → World → Prop} {md : Region.Mode} {S : World → Prop}

def treeB (md : Region.Mode) (ops : Array Oper) (n g : Nat) : PT → Array Bool → Bool
  | .fin, listed => Region.seqB md ops g n listed
  | .take i t, listed => decide (i < n) && (Region.ready md ops listed).contains i && Region.free md ops listed i && treeB md ops n g t (listed.setIfInBounds i true)
  | .step i t, listed => decide (i < n) && decide (Region.ready md ops listed = [i]) && treeB md ops n g t (listed.setIfInBounds i true)
  | .fork i j t u, listed => decide (i < n) && decide (j < n) && decide (Region.ready md ops listed = [i, j]) && decide (t.len = u.len) && treeB md ops n g t (listed.setIfInBounds i true) && treeB md ops n g u (listed.setIfInBounds j true)

def wpTree (P : Program) (ops : Array Oper) (Q : Exit → Act → World → Prop) (S : World → Prop) (L : Act → World → Prop) : PT → Act → World → Prop
  | .fin, a, w => L a w
  | .take i t, a, w => ∃ oi v, ops[i]? = some oi ∧ YieldsIf P ops S oi v a ∧ wpTree P ops Q S L t (a.put oi.dst v) w
  | .step i t, a, w => wpOp P ops Q i (fun a' w' => S w' ∧ wpTree P ops Q S L t a' w') a w
  | .fork i j t u, a, w => wpOp P ops Q i (fun a' w' => S w' ∧ wpTree P ops Q S L t a' w') a w ∧ wpOp P ops Q j (fun a' w' => S w' ∧ wpTree P ops Q S L u a' w') a w

theorem wpAnyT_of_tree {n g : Nat} {Lq : Act → World → Prop} (hsel : Region.noSelect ops = true) (hb : n = ops.size ∨ (Region.sinkB md ops n = true ∧ Region.chainB md ops n = true ∧ n < ops.size))
    (hQ : ∀ c a d v w, Q (.panic c) (Act.put a (some d) v) w → Q (.panic c) a w) :
    ∀ (t : PT) (listed : Array Bool) (a : Act) (w : World), HeadInv md ops n listed → treeB md ops n g t listed = true → S w → wpTree P ops Q S Lq t a w →
      wpAnyT P md ops Q S n (fun listed' a' w' => Region.seqB md ops g n listed' = true ∧ Lq a' w') t.len listed a w
  | .fin, listed, a, w, inv, hB, hS, h => ⟨by simpa [treeB] using hB, h⟩
  | .take i t, listed, a, w, inv, hB, hS, h => by
    simp only [treeB, Bool.and_eq_true, decide_eq_true_eq] at hB
    obtain ⟨⟨⟨hin, hr⟩, hf⟩, hB'⟩ := hB
    obtain ⟨oi, v, hoi, hy, hK⟩ := h
    have hr' : i ∈ Region.ready md ops listed := by simpa using hr
    exact wpAnyT_first hoi (Region.noSelect_spec hsel) hb hin (fun listed' a' w' hL => seqB_ready hL.1) (fun c a w h => by cases hd : oi.dst with | none => rw [hd] at h; exact h | some d => rw [hd] at h; exact hQ c a d _ w h) t.len listed a w inv (Region.free_spec hoi hf) hr' hy hS
      (wpAnyT_of_tree hsel hb hQ t _ _ w (inv.set hr' hin) hB' hS hK)
  | .step i t, listed, a, w, inv, hB, hS, h => by
    simp only [treeB, Bool.and_eq_true, decide_eq_true_eq] at hB
    obtain ⟨⟨hin, hr⟩, hB'⟩ := hB
    have hr' : i ∈ Region.ready md ops listed := by rw [hr]; simp
    refine ⟨fun h0 => (by rw [h0] at hr'; cases hr'), fun j hj => ?_⟩
    rw [hr] at hj
    have hji : j = i := by simpa using hj
    subst hji
    exact ⟨hin, wpOp_mono (fun a' w' h3 => ⟨h3.1, wpAnyT_of_tree hsel hb hQ t _ a' w' (inv.set hr' hin) hB' h3.1 h3.2⟩) h⟩
  | .fork i j t u, listed, a, w, inv, hB, hS, h => by
    simp only [treeB, Bool.and_eq_true, decide_eq_true_eq] at hB
    obtain ⟨⟨⟨⟨⟨hin, hjn⟩, hr⟩, hlen⟩, hB1⟩, hB2⟩ := hB
    have hri : i ∈ Region.ready md ops listed := by rw [hr]; simp
    have hrj : j ∈ Region.ready md ops listed := by rw [hr]; simp
    refine ⟨fun h0 => (by rw [h0] at hri; cases hri), fun k hk => ?_⟩
    rw [hr] at hk
    simp only [List.mem_cons, List.not_mem_nil, or_false] at hk
    rcases hk with rfl | rfl
    · exact ⟨hin, wpOp_mono (fun a' w' h3 => ⟨h3.1, wpAnyT_of_tree hsel hb hQ t _ a' w' (inv.set hri hin) hB1 h3.1 h3.2⟩) h.1⟩
    · refine ⟨hjn, wpOp_mono (fun a' w' h3 => ⟨h3.1, ?_⟩) h.2⟩
      have := wpAnyT_of_tree hsel hb hQ u _ a' w' (inv.set hrj hjn) hB2 h3.1 h3.2
      rw [← hlen] at this
      exact this

def goodT (md : Region.Mode) (ops : Array Oper) (n : Nat) (t : PT) : Bool :=
  Region.noSelect ops && (decide (n = ops.size) || (decide (n < ops.size) && Region.sinkB md ops n && Region.chainB md ops n)) && decide (t.len = n) && treeB md ops n (ops.size - n) t (Array.replicate ops.size false)

/-- The tree with its operations written out. -/
inductive OT where
  | fin
  | take (o : Oper) (t : OT)
  | step (o : Oper) (t : OT)
  | fork (o o' : Oper) (t u : OT)
def pickT (l : List Oper) : PT → OT
  | .fin => .fin
  | .take i t => .take ((l[i]?).getD ⟨none, .ready 0, 0, "", #[], none⟩) (pickT l t)
  | .step i t => .step ((l[i]?).getD ⟨none, .ready 0, 0, "", #[], none⟩) (pickT l t)
  | .fork i j t u => .fork ((l[i]?).getD ⟨none, .ready 0, 0, "", #[], none⟩) ((l[j]?).getD ⟨none, .ready 0, 0, "", #[], none⟩) (pickT l t) (pickT l u)
def inT (n : Nat) : PT → Bool
  | .fin => true
  | .take i t => decide (i < n) && inT n t
  | .step i t => decide (i < n) && inT n t
  | .fork i j t u => decide (i < n) && decide (j < n) && inT n t && inT n u
def wpOT (P : Program) (ops : Array Oper) (Q : Exit → Act → World → Prop) (S : World → Prop) (L : Act → World → Prop) : OT → Act → World → Prop
  | .fin, a, w => L a w
  | .take o t, a, w => ∃ v, YieldsIf P ops S o v a ∧ wpOT P ops Q S L t (a.put o.dst v) w
  | .step o t, a, w => wpList P ops (PlanPost Q (fun a w => S w ∧ wpOT P ops Q S L t a w)) [o] a w
  | .fork o o' t u, a, w => wpList P ops (PlanPost Q (fun a w => S w ∧ wpOT P ops Q S L t a w)) [o] a w ∧ wpList P ops (PlanPost Q (fun a w => S w ∧ wpOT P ops Q S L u a w)) [o'] a w

theorem wpOp_of_list {l : List Oper} {i : Nat} {K C : Act → World → Prop} (hi : i < l.length) (hK : ∀ a w, C a w → K a w) {a : Act} {w : World} (h : wpList P l.toArray (PlanPost Q C) [(l[i]?).getD ⟨none, .ready 0, 0, "", #[], none⟩] a w) : wpOp P l.toArray Q i K a w := by
  have ho : l[i]? = some l[i] := List.getElem?_eq_getElem hi
  have ho' : l.toArray[i]? = some l[i] := by simp
  simp only [ho, Option.getD_some, wpList] at h
  unfold wpOp
  simp only [ho']
  split
  · rename_i hw
    rw [if_pos hw] at h
    exact h.imp (fun h => Oper.wp_mono (fun a' w' h' => hK a' w' h') (Oper.wp_planPost h)) (fun h => h)
  · rename_i hw
    rw [if_neg hw] at h
    exact hK _ _ h

theorem wpTree_of_OT {l : List Oper} {L : Act → World → Prop} : ∀ (t : PT) (a : Act) (w : World), inT l.length t = true → wpOT P l.toArray Q S L (pickT l t) a w → wpTree P l.toArray Q S L t a w
  | .fin, _, _, _, h => h
  | .take i t, a, w, hB, h => by
    simp only [inT, Bool.and_eq_true, decide_eq_true_eq] at hB
    have ho : l[i]? = some l[i] := List.getElem?_eq_getElem hB.1
    simp only [pickT, ho, Option.getD_some, wpOT] at h
    obtain ⟨v, hy, hK⟩ := h
    exact ⟨l[i], v, by simp, hy, wpTree_of_OT t _ w hB.2 hK⟩
  | .step i t, a, w, hB, h => by
    simp only [inT, Bool.and_eq_true, decide_eq_true_eq] at hB
    exact wpOp_of_list hB.1 (fun a' w' h' => ⟨h'.1, wpTree_of_OT t a' w' hB.2 h'.2⟩) h
  | .fork i j t u, a, w, hB, h => by
    simp only [inT, Bool.and_eq_true, decide_eq_true_eq] at hB
    exact ⟨wpOp_of_list hB.1.1.1 (fun a' w' h' => ⟨h'.1, wpTree_of_OT t a' w' hB.1.2 h'.2⟩) h.1, wpOp_of_list hB.1.1.2 (fun a' w' h' => ⟨h'.1, wpTree_of_OT u a' w' hB.2 h'.2⟩) h.2⟩

/-- THE LAW. -/
theorem wp_region_tree {id : Nat} {a : Act} {w : World} {l : List Oper} (S : World → Prop) (n : Nat) (t : PT) (hm : P.follows .mixedOrders = true) (hB : goodT .any l.toArray n t = true) (hI : inT l.length t = true)
    (hQ : ∀ c a d v w, Q (.panic c) (Act.put a (some d) v) w → Q (.panic c) a w) (hS : S w.drew)
    (h : S w.drew → wpOT P l.toArray Q S (wpList P l.toArray Q (l.drop n)) (pickT l t) a w.drew) : (Code.region id l.toArray true).wp P Q a w := by
  simp only [goodT, Bool.and_eq_true, Bool.or_eq_true, decide_eq_true_eq] at hB
  obtain ⟨⟨⟨hsel, hb⟩, hlen⟩, hpl⟩ := hB
  have hb' : n = l.toArray.size ∨ (Region.sinkB .any l.toArray n = true ∧ Region.chainB .any l.toArray n = true ∧ n < l.toArray.size) := hb.imp (fun h => h) fun h => ⟨h.1.2, h.2, h.1.1⟩
  have hn : n ≤ l.toArray.size := by rcases hb' with h | h <;> omega
  have hn' : n ≤ l.length := by simpa using hn
  have hdl : (l.drop n).length = l.toArray.size - n := by simp
  have inv0 : HeadInv .any l.toArray n (Array.replicate l.toArray.size false) :=
    ⟨by simp, fun j oj _ hl => (by rw [getD_replicate_false] at hl; cases hl), fun t _ ht => getD_in (by simpa using ht) (getD_replicate_false _ _)⟩
  have H := wpAnyT_of_tree (md := .any) (g := l.toArray.size - n) hsel hb' hQ t _ a w.drew inv0 hpl hS (wpTree_of_OT t a w.drew hI (h hS))
  refine wp_region_any hm ?_
  have := wpAny_of_T (Q := Q) (g := l.toArray.size - n) (fun listed a' w' hL => by
    have := wpAny_of_seq (md := .any) (Q' := Q) (l.drop n) n listed a' w' (fun j => by simp [List.getElem?_drop]) (by rw [hdl]; exact hL.1) hL.2
    rwa [hdl] at this) _ _ _ _ H
  rw [hlen, show n + (l.toArray.size - n) = l.toArray.size by omega] at this
  exact this

theorem takeT {L : Act → World → Prop} {o : Oper} {v : Value} {r : OT} {a a' : Act} {w : World} (hw : Region.wanted o (yielded ops a.tmps) = true)
    (hy : ∀ w, S w → (execOp a.eval o).run P w = .ok (.value v) w) (hput : a.put o.dst v = a') (h : wpOT P ops Q S L r a' w) : wpOT P ops Q S L (.take o r) a w := ⟨v, .inl ⟨hw, hy⟩, hput ▸ h⟩
theorem stepT {L : Act → World → Prop} {o : Oper} {r : OT} {a : Act} {w : World}
    (h : wpList P ops (PlanPost Q (fun a w => S w ∧ wpOT P ops Q S L r a w)) [o] a w) : wpOT P ops Q S L (.step o r) a w := h
theorem forkT {L : Act → World → Prop} {o o' : Oper} {r s : OT} {a : Act} {w : World}
    (h : wpList P ops (PlanPost Q (fun a w => S w ∧ wpOT P ops Q S L r a w)) [o] a w) (g : wpList P ops (PlanPost Q (fun a w => S w ∧ wpOT P ops Q S L s a w)) [o'] a w) : wpOT P ops Q S L (.fork o o' r s) a w := ⟨h, g⟩
theorem finT {L : Act → World → Prop} {a : Act} {w : World} (h : L a w) : wpOT P ops Q S L .fin a w := h
end
end Go.Proofs.YtnjdepojmnniaaaGreatDoor.Plan

/- The client hears an answer. (Printed beside ClG.) -/
namespace Go.Proofs.YtnjdepojmnniaaaGreatDoor
open Go Go.RowKit

set_option maxRecDepth 100000 in
set_option maxHeartbeats 16000000 in
theorem clHear_ears (w : World) (n : Nat) (Q : Nat → Prop) (c : CliD) (dv fv : Value) (m : MsgD) (ea da : Option Addr) (el ec dc : Nat) (hT : Tabs w) (h : CliAt w n Q c dv fv) (hok : HearOk c) (hr : Reads w 1 (.slice da m.data.length dc) m.data.length (u8s m.data)) (hb : m.data.length ≤ 140737488355328) (hQ : ∀ b, w.heap.size ≤ b → Q b) (hd : deafD c m = false) :
    Calls Tryz.prog 11 #[.pointer (some ⟨n, 0, none⟩), msgV m (.slice ea el ec) (.slice da m.data.length dc)] w (ToldPost n Q (chearD c m) w) := by
  have HT := hid hT
  have H := hid h
  have HR := hid hr
  have HK := hid hok
  have HQ := hid hQ
  have HD := hid hd
  have HB := hid (fun w1 (k : Keeps [] w w1) => clBusy_any (h.k k))
  have HGR := hid (fun w1 h1 h3 => cmGetR_any (.slice da m.data.length dc) m.data w1 h1 h3 hb)
  have x0 : w.cell? ⟨n, 0, none⟩ = some (.int .i64 c.conf.nodes) := h.cell 0
  have x9 : w.cell? ⟨n, 9, none⟩ = some (.int .i64 c.id) := h.cell 9
  have x13 : w.cell? ⟨n, 13, none⟩ = some (.int .i64 c.request) := h.cell 13
  have hlt := h.lt
  unfold msgV
  obtain ⟨h0, h1, h2, h3, h4, h5⟩ := hears_all hd
  rw [h0] at HB
  clear h hok hr hT hQ hd h0
  go_enter Tryz.func11, Tryz.ntmps11
  go_wp2_with fail
  refine Plan.wp_region_plan (fun wx => (wx.cell? ⟨w.heap.size, 0, none⟩ = some (.int .i64 m.kind) ∧ wx.cell? ⟨w.heap.size, 1, none⟩ = some (.int .i64 m.frm) ∧ wx.cell? ⟨w.heap.size, 2, none⟩ = some (.int .i64 m.«to») ∧ wx.cell? ⟨w.heap.size, 6, none⟩ = some (.int .i64 m.c)) ∧ wx.cell? ⟨n, 0, none⟩ = some (.int .i64 c.conf.nodes) ∧ wx.cell? ⟨n, 9, none⟩ = some (.int .i64 c.id) ∧ wx.cell? ⟨n, 13, none⟩ = some (.int .i64 c.request)) 39 [(true, 0), (false, 1), (true, 2), (true, 3), (true, 4), (true, 5), (true, 6), (true, 7), (true, 8), (true, 9), (true, 10), (true, 11), (true, 12), (true, 13), (true, 14), (true, 15), (true, 16), (true, 17), (true, 18), (true, 19), (true, 20), (true, 21), (true, 22), (true, 23), (true, 24), (true, 25), (true, 26), (true, 27), (true, 28), (true, 29), (true, 30), (true, 31), (true, 32), (true, 33), (true, 34), (true, 35), (true, 36), (true, 37), (true, 38)] (by kernel_rfl) (by as_aux_lemma => kernel_rfl) (by kernel_rfl) (fun _ _ _ _ _ h => h) ?_ (fun hS => ?_)
  (· go_simp)
  simp only [Plan.pick, List.append_eq, List.cons_append, List.nil_append, Plan.g1, Plan.g2, Option.getD_some, List.drop_succ_cons, List.drop_zero]
  iterate 1 (first | refine Plan.tA ?_ | refine Plan.tY ?_ | refine Plan.pN ?_ | refine Plan.pU ?_ | fail)
  refine Plan.step ?_
  go_wp2_with fail
  refine (HB.out _ (by exact Keeps.K)).mono ?_
  rintro e w2 ⟨rfl, hk⟩
  have y0 : w2.cell? ⟨w.heap.size, 0, none⟩ = some (.int .i64 m.kind) := hk.cellSome (by go_simp) (by simp)
  have y1 : w2.cell? ⟨w.heap.size, 1, none⟩ = some (.int .i64 m.frm) := hk.cellSome (by go_simp) (by simp)
  have y2 : w2.cell? ⟨w.heap.size, 2, none⟩ = some (.int .i64 m.«to») := hk.cellSome (by go_simp) (by simp)
  have y4 : w2.cell? ⟨w.heap.size, 4, none⟩ = some (.int .i64 m.a) := hk.cellSome (by go_simp) (by simp)
  have y6 : w2.cell? ⟨w.heap.size, 6, none⟩ = some (.int .i64 m.c) := hk.cellSome (by go_simp) (by simp)
  have y7 : w2.cell? ⟨w.heap.size, 7, none⟩ = some (.bool m.ok) := hk.cellSome (by go_simp) (by simp)
  have y9 : w2.cell? ⟨w.heap.size, 9, none⟩ = some (.slice da m.data.length dc) := hk.cellSome (by go_simp) (by simp)
  have z0 : w2.cell? ⟨n, 0, none⟩ = some (.int .i64 c.conf.nodes) := hk.cellSome (by go_simp) (by simp)
  have z9 : w2.cell? ⟨n, 9, none⟩ = some (.int .i64 c.id) := hk.cellSome (by go_simp) (by simp)
  have z13 : w2.cell? ⟨n, 13, none⟩ = some (.int .i64 c.request) := hk.cellSome (by go_simp) (by simp)
  have K2 : Hid (Keeps [] w w2) := Keeps.trans (G := []) (by exact Keeps.K) hk (fun _ _ h => h)
  have z10 : w2.cell? ⟨n, 10, none⟩ = some (.int .i64 c.node) := (H.out.k K2.out).cell 10
  have hlt2 : w.heap.size < w2.heap.size := by have := hk.size; simp at this; omega
  clear hk hS
  go_wp2_with fail
  refine ⟨?_, ?_⟩
  (· go_simp)
  iterate 37 (first | refine Plan.tA ?_ | refine Plan.tY ?_ | refine Plan.pN ?_ | refine Plan.pU ?_ | fail)
  refine Plan.fin ?_
  clear x0 x9 x13
  obtain ⟨ok, hok⟩ : ∃ ok, m.ok = ok := ⟨_, rfl⟩
  rw [hok] at y7 ⊢
  have HOK := hid hok
  clear hok
  rcases ok with _ | _
  · by_cases ha : m.a < 1 ∨ c.conf.nodes < m.a ∨ m.a = c.node
    · have HO : Hid (chearD c m = (c, [], false)) := by
        show _ = _
        unfold chearD
        rw [if_neg (by rw [HD.out]; decide), if_pos HOK.out, if_pos ha]
      have hc : m.a < 1 ∨ (m.a < 1) = False ∧ (c.conf.nodes < m.a ∨ (c.conf.nodes < m.a) = False ∧ (m.a == c.node) = true) := by
        by_cases q1 : m.a < 1
        · exact .inl q1
        · refine .inr ⟨eq_false q1, ?_⟩
          by_cases q2 : c.conf.nodes < m.a
          · exact .inl q2
          · exact .inr ⟨eq_false q2, by simp; omega⟩
      clear ha
      rcases hc with q1 | ⟨q1, q2 | ⟨q2, q3⟩⟩
      all_goals
        go_wp2_with fail
        go_quiet (fail)
        go_wp2_with fail
        refine bodyPost_ret (v := .tuple #[.slice none 0 0, .bool false]) (by simp [results, Tryz.results11, go_sem]) rfl ?_
        rw [HO.out]
        exact ⟨_, rfl, CliPost.silent ((H.out.k K2.out).k (by exact Keeps.K)) ((K2.out.mono (fun _ _ h => by cases h)).trans (G := []) (by exact Keeps.K) (fun _ _ h => by cases h))⟩
    · have HO : Hid (chearD c m = ((againD c m.a).1, (againD c m.a).2, false)) := by
        show _ = _
        unfold chearD
        rw [if_neg (by rw [HD.out]; decide), if_pos HOK.out, if_neg ha]
      have q1 : (m.a < 1) = False := eq_false (fun h => ha (.inl h))
      have q2 : (c.conf.nodes < m.a) = False := eq_false (fun h => ha (.inr (.inl h)))
      have q3 : (m.a == c.node) = false := by rw [beq_eq_false_iff_ne]; exact fun h => ha (.inr (.inr h))
      clear ha
      go_wp2_with fail
      go_quiet (fail)
      go_wp2_with fail
      refine (clAgain_any _ n Q c dv fv _ ((H.out.k K2.out).k (by exact Keeps.K)) HK.out.data).mono ?_
      rintro e w6 ⟨v, rfl, a6, q6, dv6, fv6, rfl, g6, g7, g8⟩
      have HP : Hid (CliPost n Q (againD c m.a).1 (againD c m.a).2 w (.slice a6 (againD c m.a).2.length q6) w6) := CliPost.from ⟨a6, q6, dv6, fv6, rfl, g6, g7, g8⟩ ((K2.out.mono (fun _ _ h => by cases h)).trans (G := []) (by exact Keeps.K) (fun _ _ h => by cases h))
      clear g6 g7 g8
      go_wp2_with fail
      refine bodyPost_ret (v := .tuple #[.slice a6 (againD c m.a).2.length q6, .bool false]) (by simp [results, Tryz.results11, go_sem]) rfl ?_
      rw [HO.out]
      exact ⟨_, rfl, HP.out⟩
  · obtain ⟨⟨⟨er, nn, ⟨rk, rn, rs⟩⟩, good⟩, hgr⟩ : ∃ r, getR m.data = r := ⟨_, rfl⟩
    have HNN : Hid (good = true → nn ≤ 1099511627776) := fun hg => by
      have := getR_n (bs := m.data) (by rw [hgr]; exact hg)
      rw [hgr] at this
      exact this
    rw [hgr] at HGR
    have HG0 : Hid (good = false → chearD c m = (c, [], false)) := fun hg => by
      unfold chearD
      rw [if_neg (by rw [HD.out]; decide), if_neg (by rw [HOK.out]; decide), hgr, if_pos hg]
    have HG1 : Hid (good = true → c.does = 1 → chearD c m = openedD c ⟨er, nn, ⟨rk, rn, rs⟩⟩) := fun hg h1 => by
      unfold chearD
      rw [if_neg (by rw [HD.out]; decide), if_neg (by rw [HOK.out]; decide), hgr, if_neg (by simp [hg]), if_pos h1]
    have HG2 : Hid (good = true → c.does = 2 → chearD c m = overD c ⟨er, nn, ⟨rk, rn, rs⟩⟩) := fun hg h1 => by
      unfold chearD
      rw [if_neg (by rw [HD.out]; decide), if_neg (by rw [HOK.out]; decide), hgr, if_neg (by simp [hg]), if_neg (by rw [h1]; decide)]
    clear hgr
    go_wp2_with fail
    refine (HGR.out _ (HT.out.k (by have kk := K2.out; exact Keeps.K)) (HR.out.k0 (by have kk := K2.out; exact Keeps.K))).mono ?_
    rintro e w3 ⟨rfl, hk⟩
    have K3 : Hid (Keeps [] w w3) := Keeps.trans (by have kk := K2.out; exact Keeps.K) hk (fun _ _ h => h)
    clear hk y0 y1 y2 y4 y6 y7 y9 z0 z9 z10 z13
    unfold replyV
    dsimp only
    rcases good with _ | _
    · have HO := hid (HG0.out rfl)
      clear HG0 HG1 HG2
      go_wp2_with fail
      refine bodyPost_ret (v := .tuple #[.slice none 0 0, .bool false]) (by simp [results, Tryz.results11, go_sem]) rfl ?_
      rw [HO.out]
      exact ⟨_, rfl, CliPost.silent ((H.out.k K3.out).k (by exact Keeps.K)) ((K3.out.mono (fun _ _ h => by cases h)).trans (G := []) (by exact Keeps.K) (fun _ _ h => by cases h))⟩
    · have HN := hid (HNN.out rfl)
      have HD1 := hid (HG1.out rfl)
      have HD2 := hid (HG2.out rfl)
      clear HG0 HG1 HG2 HNN
      have H3 := hid (H.out.k K3.out)
      have x33 : w3.cell? ⟨n, 33, none⟩ = some fv := H3.out.cell 33
      have hlt3 := H3.out.lt
      rcases H3.out.next with ⟨g0, -⟩ | ⟨f, g, gd, rfl, gb, -⟩
      · have := HD.out
        simp [deafD, g0] at this
      · have HGB := hid gb
        have hgl : g < w3.heap.size := (Array.getElem?_eq_some_iff.1 gb).1
        have hv1 : (Value.func (.func f) #[] #[.pointer (some ⟨g, 0, none⟩)]).oneCell' = true := rfl
        clear gb
        rcases gd with ⟨g1, rfl⟩ | ⟨g1, rfl⟩
        · have HO := hid (HD1.out g1)
          have HG1' := hid g1
          clear HD1 HD2 g1
          go_wp2_with fail
          refine Plan.wp_region_tree (fun _ => True) 8 (.take 0 (.take 1 (.take 2 (.fork 3 4 (.step 4 (.step 5 (.take 6 (.take 7 .fin)))) (.step 3 (.step 5 (.take 6 (.take 7 .fin)))))))) (by kernel_rfl) (by as_aux_lemma => kernel_rfl) (by kernel_rfl) (fun _ _ _ _ _ h => h) trivial (fun hS => ?_)
          simp only [Plan.pickT, List.append_eq, List.cons_append, List.nil_append, Plan.g1, Plan.g2, Option.getD_some, List.drop_succ_cons, List.drop_zero]
          iterate 3 (refine Plan.takeT (v := ?_) (a' := ?_) (Plan.want_all (by rfl)) ?_ ?_ ?_; rotate_left 2; (· (intro w' hS'; (try dsimp only at hS'); go_simp; try with_reducible rfl)); (· (simp only [Act.put, Plan.l1, Plan.l2, Plan.l3]; try with_reducible rfl)))
          refine Plan.forkT ?_ ?_
          · go_wp2_with fail
            refine ⟨trivial, ?_⟩
            refine Plan.stepT ?_
            go_wp2_with fail
            refine ⟨trivial, ?_⟩
            refine Plan.stepT ?_
            go_wp2_with fail
            refine (clAsk1_any _ n g Q c dv _ ⟨er, nn, ⟨rk, rn, rs⟩⟩ ?_ (H3.out.k (by exact Keeps.K)) ⟨HK.out.request.1, HK.out.request.2 HG1'.out⟩ HK.out.call HN.out (fun b hb => HQ.out b (by have := K3.out.size; simp at hb; omega))).mono ?_
            · exact (Keeps.block (F := []) (w := w3) (by exact Keeps.K) g hgl (by simp)).trans HGB.out
            rw [← HO.out]
            rintro e w6 ⟨v, rfl, a6, q6, dv6, fv6, rfl, g6, g7, g8⟩
            have HP : Hid (CliPost n Q (chearD c m).1 (chearD c m).2.1 w (.slice a6 (chearD c m).2.1.length q6) w6) := CliPost.from ⟨a6, q6, dv6, fv6, rfl, g6, g7, g8⟩ ((K3.out.mono (fun _ _ h => by cases h)).trans (G := []) (by exact Keeps.K) (fun _ _ h => by cases h))
            clear g6 g7 g8
            go_wp2_with fail
            refine ⟨trivial, ?_⟩
            iterate 2 (refine Plan.takeT (v := ?_) (a' := ?_) (Plan.want_all (by rfl)) ?_ ?_ ?_; rotate_left 2; (· (intro w' hS'; (try dsimp only at hS'); go_simp; try with_reducible rfl)); (· (simp only [Act.put, Plan.l1, Plan.l2, Plan.l3]; try with_reducible rfl)))
            refine Plan.finT ?_
            go_wp2_with fail
            refine bodyPost_ret (v := .tuple #[.slice a6 (chearD c m).2.1.length q6, .bool (chearD c m).2.2]) (by simp [results, Tryz.results11, go_sem]) rfl ?_
            exact ⟨_, rfl, HP.out⟩
          · go_wp2_with fail
            refine ⟨trivial, ?_⟩
            refine Plan.stepT ?_
            go_wp2_with fail
            refine ⟨trivial, ?_⟩
            refine Plan.stepT ?_
            go_wp2_with fail
            refine (clAsk1_any _ n g Q c dv _ ⟨er, nn, ⟨rk, rn, rs⟩⟩ ?_ (H3.out.k (by exact Keeps.K)) ⟨HK.out.request.1, HK.out.request.2 HG1'.out⟩ HK.out.call HN.out (fun b hb => HQ.out b (by have := K3.out.size; simp at hb; omega))).mono ?_
            · exact (Keeps.block (F := []) (w := w3) (by exact Keeps.K) g hgl (by simp)).trans HGB.out
            rw [← HO.out]
            rintro e w6 ⟨v, rfl, a6, q6, dv6, fv6, rfl, g6, g7, g8⟩
            have HP : Hid (CliPost n Q (chearD c m).1 (chearD c m).2.1 w (.slice a6 (chearD c m).2.1.length q6) w6) := CliPost.from ⟨a6, q6, dv6, fv6, rfl, g6, g7, g8⟩ ((K3.out.mono (fun _ _ h => by cases h)).trans (G := []) (by exact Keeps.K) (fun _ _ h => by cases h))
            clear g6 g7 g8
            go_wp2_with fail
            refine ⟨trivial, ?_⟩
            iterate 2 (refine Plan.takeT (v := ?_) (a' := ?_) (Plan.want_all (by rfl)) ?_ ?_ ?_; rotate_left 2; (· (intro w' hS'; (try dsimp only at hS'); go_simp; try with_reducible rfl)); (· (simp only [Act.put, Plan.l1, Plan.l2, Plan.l3]; try with_reducible rfl)))
            refine Plan.finT ?_
            go_wp2_with fail
            refine bodyPost_ret (v := .tuple #[.slice a6 (chearD c m).2.1.length q6, .bool (chearD c m).2.2]) (by simp [results, Tryz.results11, go_sem]) rfl ?_
            exact ⟨_, rfl, HP.out⟩
        · have HO := hid (HD2.out g1)
          clear HD1 HD2 g1
          go_wp2_with fail
          refine Plan.wp_region_tree (fun _ => True) 8 (.take 0 (.take 1 (.take 2 (.fork 3 4 (.step 4 (.step 5 (.take 6 (.take 7 .fin)))) (.step 3 (.step 5 (.take 6 (.take 7 .fin)))))))) (by kernel_rfl) (by as_aux_lemma => kernel_rfl) (by kernel_rfl) (fun _ _ _ _ _ h => h) trivial (fun hS => ?_)
          simp only [Plan.pickT, List.append_eq, List.cons_append, List.nil_append, Plan.g1, Plan.g2, Option.getD_some, List.drop_succ_cons, List.drop_zero]
          iterate 3 (refine Plan.takeT (v := ?_) (a' := ?_) (Plan.want_all (by rfl)) ?_ ?_ ?_; rotate_left 2; (· (intro w' hS'; (try dsimp only at hS'); go_simp; try with_reducible rfl)); (· (simp only [Act.put, Plan.l1, Plan.l2, Plan.l3]; try with_reducible rfl)))
          refine Plan.forkT ?_ ?_
          · go_wp2_with fail
            refine ⟨trivial, ?_⟩
            refine Plan.stepT ?_
            go_wp2_with fail
            refine ⟨trivial, ?_⟩
            refine Plan.stepT ?_
            go_wp2_with fail
            refine (clAsk2_any _ n g Q c dv _ ⟨er, nn, ⟨rk, rn, rs⟩⟩ ?_ (H3.out.k (by exact Keeps.K))).mono ?_
            · exact (Keeps.block (F := []) (w := w3) (by exact Keeps.K) g hgl (by simp)).trans HGB.out
            rw [← HO.out]
            rintro e w6 ⟨v, rfl, a6, q6, dv6, fv6, rfl, g6, g7, g8⟩
            have HP : Hid (CliPost n Q (chearD c m).1 (chearD c m).2.1 w (.slice a6 (chearD c m).2.1.length q6) w6) := CliPost.from ⟨a6, q6, dv6, fv6, rfl, g6, g7, g8⟩ ((K3.out.mono (fun _ _ h => by cases h)).trans (G := []) (by exact Keeps.K) (fun _ _ h => by cases h))
            clear g6 g7 g8
            go_wp2_with fail
            refine ⟨trivial, ?_⟩
            iterate 2 (refine Plan.takeT (v := ?_) (a' := ?_) (Plan.want_all (by rfl)) ?_ ?_ ?_; rotate_left 2; (· (intro w' hS'; (try dsimp only at hS'); go_simp; try with_reducible rfl)); (· (simp only [Act.put, Plan.l1, Plan.l2, Plan.l3]; try with_reducible rfl)))
            refine Plan.finT ?_
            go_wp2_with fail
            refine bodyPost_ret (v := .tuple #[.slice a6 (chearD c m).2.1.length q6, .bool (chearD c m).2.2]) (by simp [results, Tryz.results11, go_sem]) rfl ?_
            exact ⟨_, rfl, HP.out⟩
          · go_wp2_with fail
            refine ⟨trivial, ?_⟩
            refine Plan.stepT ?_
            go_wp2_with fail
            refine ⟨trivial, ?_⟩
            refine Plan.stepT ?_
            go_wp2_with fail
            refine (clAsk2_any _ n g Q c dv _ ⟨er, nn, ⟨rk, rn, rs⟩⟩ ?_ (H3.out.k (by exact Keeps.K))).mono ?_
            · exact (Keeps.block (F := []) (w := w3) (by exact Keeps.K) g hgl (by simp)).trans HGB.out
            rw [← HO.out]
            rintro e w6 ⟨v, rfl, a6, q6, dv6, fv6, rfl, g6, g7, g8⟩
            have HP : Hid (CliPost n Q (chearD c m).1 (chearD c m).2.1 w (.slice a6 (chearD c m).2.1.length q6) w6) := CliPost.from ⟨a6, q6, dv6, fv6, rfl, g6, g7, g8⟩ ((K3.out.mono (fun _ _ h => by cases h)).trans (G := []) (by exact Keeps.K) (fun _ _ h => by cases h))
            clear g6 g7 g8
            go_wp2_with fail
            refine ⟨trivial, ?_⟩
            iterate 2 (refine Plan.takeT (v := ?_) (a' := ?_) (Plan.want_all (by rfl)) ?_ ?_ ?_; rotate_left 2; (· (intro w' hS'; (try dsimp only at hS'); go_simp; try with_reducible rfl)); (· (simp only [Act.put, Plan.l1, Plan.l2, Plan.l3]; try with_reducible rfl)))
            refine Plan.finT ?_
            go_wp2_with fail
            refine bodyPost_ret (v := .tuple #[.slice a6 (chearD c m).2.1.length q6, .bool (chearD c m).2.2]) (by simp [results, Tryz.results11, go_sem]) rfl ?_
            exact ⟨_, rfl, HP.out⟩

end Go.Proofs.YtnjdepojmnniaaaGreatDoor

/- from, put: an entry behind the log. -/
namespace Go.Proofs.YtnjdepojmnniaaaGreatDoor
open Go Go.RowKit

theorem turnD_ok {c : CoreD} (h : CoreOk c) {i : Int} (hi : 0 ≤ i ∧ i ≤ 2199023255553) : CoreOk (turnD c i) :=
  { may := h.may, id := h.id, term := h.term, base := h.base, baseTerm := h.baseTerm, len := h.len, last := h.last, commit := h.commit, draw := h.draw, votes := h.votes, next := h.next, matc := h.matc, nexts := h.nexts, matcs := h.matcs, ents := h.ents, frm := by
      unfold turnD
      show 0 ≤ (if c.frm = 0 ∨ i < c.frm then i else c.frm) ∧ _ ≤ _
      split
      · exact hi
      · exact h.frm
    data := h.data, snap := h.snap }

theorem putL_ok {c : CoreD} {e : Ent} (h : CoreOk c) (hlen : c.l.length < 5096) (hlast : lastD c + 1 ≤ 2199023255552) (ht : 0 ≤ e.term ∧ e.term ≤ 1099511627776) (hd : e.data.length ≤ 1000000) : CoreOk { c with l := c.l ++ [e] } := by
  unfold lastD at hlast
  exact { may := h.may, id := h.id, term := h.term, base := h.base, baseTerm := h.baseTerm, len := by simp; omega, last := by simp; omega, commit := by have := h.commit; simp; omega, draw := h.draw, votes := h.votes, next := h.next, matc := h.matc, nexts := h.nexts, matcs := h.matcs, ents := fun x hx => by
            rcases List.mem_append.1 hx with hx | hx
            · exact h.ents x hx
            · simp at hx; rw [hx]; exact ht
          frm := h.frm, data := fun x hx => by
            rcases List.mem_append.1 hx with hx | hx
            · exact h.data x hx
            · simp at hx; rw [hx]; exact hd
          snap := h.snap }

end Go.Proofs.YtnjdepojmnniaaaGreatDoor
