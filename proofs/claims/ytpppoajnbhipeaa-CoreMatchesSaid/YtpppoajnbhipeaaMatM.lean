/- Joined of Cut, MatD, MatA, MatB, MatC. -/
import Derived.WalkKit
import Derived.Test.YtpppoajnbhipeaaLeadD
import Derived.Test.YtpppoajnbhipeaaHearB
import Derived.Test.YtpppoajnbhipeaaAskA
import Derived.Test.YtpppoajnbhipeaaLeadA
import Derived.Test.YtpppoajnbhipeaaTickA
import Derived.Test.YtpppoajnbhipeaaMsgA
import Derived.Test.YtpppoajnbhipeaaCoreU

/- A cut behind two pieces of code: what stands behind them is walked once, however many ways lead through them. -/
namespace Go.Proofs.Ytpppoajnbhipeaa
open Go

theorem wp_cut {P : Program} {Q : Exit → Act → World → Prop} {a : Act} {w : World} {x y z : Code}
    (h : ∀ K : Act → World → Prop, (∀ a w, z.wp P Q a w → K a w) → ∀ M : Act → World → Prop, (∀ a w, y.wp P (Exit.then K Q) a w → M a w) → x.wp P (Exit.then M Q) a w) : (Code.seq x (Code.seq y z)).wp P Q a w := by
  refine wp_seq (wp_mono (h (z.wp P Q) (fun _ _ h => h) (fun a w => y.wp P (Exit.then (z.wp P Q) Q) a w) (fun _ _ h => h)) ?_)
  intro e a w h
  cases e with
  | normal => exact wp_seq h
  | exit id => exact h
  | goto l => exact h
  | ret => exact h
  | panic ch => exact h
  | outgrown => exact h

end Go.Proofs.Ytpppoajnbhipeaa

/- CoreMatches in plain words. -/
namespace Go.Proofs.Ytpppoajnbhipeaa
open Go Go.RowKit

/-- What the leader's log is. -/
structure MatL (L : List Ent) : Prop where
  len : L.length ≤ 25
  terms : ∀ e ∈ L, 1 ≤ e.term ∧ e.term ≤ 6
  datas : ∀ e ∈ L, e.data.length ≤ 1000000
  last : ∃ L0 e, L = L0 ++ [e] ∧ e.term = 6

/-- Where two logs have an index in like terms they are alike up to there. -/
def Alike (L l : List Ent) : Prop :=
  (∃ j, l = L.take j) ∨ ((∀ e ∈ l, e.term ≠ 6) ∧ ∀ (i : Nat) (ex ey : Ent), L[i]? = some ex → l[i]? = some ey → ey.term = ex.term → l.take (i + 1) = L.take (i + 1))

theorem Alike.at_ {L l : List Ent} (h : Alike L l) {i : Nat} {ex ey : Ent} (h1 : L[i]? = some ex) (h2 : l[i]? = some ey) (h3 : ey.term = ex.term) : l.take (i + 1) = L.take (i + 1) := by
  rcases h with ⟨j, rfl⟩ | h
  · have hi : i < j ∧ i < L.length := by
      have := (List.getElem?_eq_some_iff.1 h2).1
      simp at this
      omega
    rw [List.take_take, show min (i + 1) j = i + 1 by omega]
  · exact h.2 i ex ey h1 h2 h3
theorem Alike.whole {L l : List Ent} (hL : MatL L) (h : Alike L l) (hl : l.take L.length = L) : l = L := by
  rcases h with ⟨j, rfl⟩ | h
  · rw [List.take_take] at hl
    by_cases hj : j ≤ L.length
    · rw [show min L.length j = j by omega] at hl
      exact hl
    · exact List.take_of_length_le (by omega)
  · obtain ⟨L0, e, h1, h2⟩ := hL.last
    refine absurd h2 (h.1 e ?_)
    have : e ∈ L := by rw [h1]; simp
    rw [← hl] at this
    exact List.mem_of_mem_take this

/-- The leader, and what it knows of node 2. -/
structure MatX (L : List Ent) (x : CoreD) : Prop where
  conf : x.conf = cfL 3
  id : x.id = 1
  term : x.term = 6
  role : x.role = 2
  base : x.base = 0
  baseTerm : x.baseTerm = 0
  log : x.l = L
  nlen : x.next.length = 8
  mlen : x.matc.length = 8
  m3 : x.matc.getD 3 0 = 0
  com : 0 ≤ x.commit ∧ x.commit ≤ x.matc.getD 2 0
  mu : x.matc.getD 2 0 + 1 ≤ x.next.getD 2 0 ∧ x.next.getD 2 0 ≤ L.length + 1
  full : x.matc.getD 2 0 = L.length → x.commit = L.length
/-- The follower. -/
structure MatY (L : List Ent) (x y : CoreD) : Prop where
  conf : y.conf = cfL 3
  id : y.id = 2
  role : y.role = 0
  base : y.base = 0
  baseTerm : y.baseTerm = 0
  term : y.term ≤ 6
  com : 0 ≤ y.commit ∧ y.commit ≤ x.matc.getD 2 0
  mu : x.matc.getD 2 0 ≤ y.l.length
  same : y.l.take (x.matc.getD 2 0).toNat = L.take (x.matc.getD 2 0).toNat
  alike : Alike L y.l

def appX (x : CoreD) (L : List Ent) (a : Nat) : MsgD := { kind := 3, frm := 1, to := 2, term := 6, a := a, b := (atD x a).1, c := x.commit, ok := false, entries := (L.drop a).take 8, data := [] }
def ansY (ok : Bool) (a : Int) : MsgD := { kind := 4, frm := 2, to := 1, term := 6, a := a, b := 0, c := 0, ok := ok, entries := [], data := [] }

theorem send_appX {L : List Ent} {x : CoreD} (h : MatX L x) {a : Nat} (ha : x.next.getD 2 0 = (a : Int) + 1) : sendD x 2 = appX x L a := by
  unfold sendD
  show (if x.next.getD 2 0 ≤ x.base then _ else _) = _
  rw [ha, h.base, if_neg (by omega)]
  show saysD x { msg0 with kind := 3, a := x.next.getD 2 0 - 1, b := (atD x (x.next.getD 2 0 - 1)).1, c := x.commit, entries := (fromD x (x.next.getD 2 0)).take 8 } 2 = _
  rw [ha, show (a : Int) + 1 - 1 = a by omega]
  show saysD x { msg0 with kind := 3, a := a, b := (atD x a).1, c := x.commit, entries := (fromD x ((a : Int) + 1)).take 8 } 2 = _
  have e : fromD x ((a : Int) + 1) = L.drop a := by
    unfold fromD
    rw [h.base, h.log, show (max ((a : Int) + 1) (0 + 1) - 0 - 1).toNat = a by omega]
  rw [e]
  unfold saysD appX msg0
  rw [h.id, h.term]

theorem at_zero {c : CoreD} (hb : c.base = 0) (ht : c.baseTerm = 0) : atD c 0 = (0, true) := by
  unfold atD
  rw [hb, ht, if_pos rfl]
theorem at_some {c : CoreD} (hb : c.base = 0) {i : Nat} {e : Ent} (h : c.l[i]? = some e) : atD c ((i : Int) + 1) = (e.term, true) := by
  have := (List.getElem?_eq_some_iff.1 h).1
  unfold atD lastD
  rw [hb, if_neg (by omega), if_neg (by omega), show ((i : Int) + 1 - 0 - 1).toNat = i by omega, h]
  rfl
theorem at_over {c : CoreD} (hb : c.base = 0) {i : Nat} (h : c.l.length < i) : atD c (i : Int) = (0, false) := by
  unfold atD lastD
  rw [hb, if_neg (by omega), if_pos (by omega)]

theorem fold_more : ∀ (r : List Ent) (c : CoreD), (r.foldl putD c).role = c.role ∧ (r.foldl putD c).leader = c.leader ∧ (r.foldl putD c).baseTerm = c.baseTerm
  | [], _ => ⟨rfl, rfl, rfl⟩
  | e :: r, c => fold_more r (putD c e)

structure PutsM (L : List Ent) (c c' : CoreD) (n : Nat) : Prop where
  conf : c'.conf = c.conf
  id : c'.id = c.id
  term : c'.term = c.term
  base : c'.base = c.base
  ban : c'.ban = c.ban
  role : c'.role = c.role
  leader : c'.leader = c.leader
  baseTerm : c'.baseTerm = c.baseTerm
  len : n ≤ c'.l.length
  same : c'.l.take n = L.take n
  alike : Alike L c'.l

theorem take_same {l L : List Ent} {a b : Nat} (h : l.take b = L.take b) (hab : a ≤ b) : l.take a = L.take a := by
  have h1 : (l.take b).take a = (L.take b).take a := by rw [h]
  rw [List.take_take, List.take_take, show min a b = a by omega] at h1
  exact h1
theorem take_get {l L : List Ent} {a i : Nat} (h : l.take a = L.take a) (hi : i < a) : l[i]? = L[i]? := by
  have h1 : (l.take a)[i]? = (L.take a)[i]? := by rw [h]
  rw [List.getElem?_take_of_lt hi, List.getElem?_take_of_lt hi] at h1
  exact h1

theorem puts_takes {L : List Ent} (hL : MatL L) {c : CoreD} (hb : c.base = 0) {mu : Nat} (hm : c.l.take mu = L.take mu) (hml : mu ≤ c.l.length) (hcm : c.commit ≤ mu) (hal : Alike L c.l) :
    ∀ (k a : Nat), a ≤ c.l.length → a ≤ L.length → c.l.take a = L.take a → ∃ c', putsD c a ((L.drop a).take k) = some c' ∧ PutsM L c c' (min (a + k) L.length)
  | 0, a, h1, h2, h3 => by
    refine ⟨c, rfl, rfl, rfl, rfl, rfl, rfl, rfl, rfl, rfl, by omega, ?_, hal⟩
    rw [show min (a + 0) L.length = a by omega]
    exact h3
  | k + 1, a, h1, h2, h3 => by
    by_cases hz : a = L.length
    · have e : (L.drop a).take (k + 1) = [] := by rw [List.drop_of_length_le (by omega)]; rfl
      rw [e]
      refine ⟨c, rfl, rfl, rfl, rfl, rfl, rfl, rfl, rfl, rfl, by omega, ?_, hal⟩
      rw [show min (a + (k + 1)) L.length = a by omega]
      exact h3
    · obtain ⟨ex, hex⟩ : ∃ ex, L[a]? = some ex := ⟨L[a]'(by omega), List.getElem?_eq_getElem _⟩
      have e : (L.drop a).take (k + 1) = ex :: (L.drop (a + 1)).take k := by rw [drop_cons hex, List.take_succ_cons]
      rw [e]
      by_cases hg : (atD c ((a : Int) + 1)).2 = true ∧ (atD c ((a : Int) + 1)).1 = ex.term
      · rw [puts_match hg]
        have hlt : a < c.l.length := by
          apply Classical.byContradiction
          intro hn
          have := at_over (c := c) hb (i := a + 1) (by omega)
          rw [show ((a + 1 : Nat) : Int) = (a : Int) + 1 by omega] at this
          rw [this] at hg
          exact absurd hg.1 (by decide)
        have hey : c.l[a]? = some (c.l[a]'hlt) := List.getElem?_eq_getElem _
        have ht := hg.2
        rw [at_some hb hey] at ht
        have h4 := hal.at_ hex hey ht
        obtain ⟨c', hc', hp⟩ := puts_takes hL hb hm hml hcm hal k (a + 1) (by omega) (by omega) h4
        refine ⟨c', ?_, ?_⟩
        · rw [← hc']
          rfl
        · rw [show a + (k + 1) = a + 1 + k by omega]
          exact hp
      · have hn : ¬ ((a : Int) + 1 ≤ c.commit ∨ 5096 < (a : Int) - c.base + ((((L.drop (a + 1)).take k).length : Int) + 1)) := by
          rintro (h | h)
          · have h5 : c.l[a]? = some ex := by rw [take_get hm (by omega)]; exact hex
            rw [at_some hb h5] at hg
            exact hg ⟨rfl, rfl⟩
          · have := hL.len
            rw [hb, List.length_take, List.length_drop] at h
            omega
        rw [puts_some hg hn]
        have hs := fold_same (ex :: (L.drop (a + 1)).take k) { c with l := c.l.take ((a : Int) - c.base).toNat }
        have hr := fold_more (ex :: (L.drop (a + 1)).take k) { c with l := c.l.take ((a : Int) - c.base).toNat }
        have hl : ((ex :: (L.drop (a + 1)).take k).foldl putD { c with l := c.l.take ((a : Int) - c.base).toNat }).l = L.take (a + (k + 1)) := by
          rw [hs.2]
          show c.l.take ((a : Int) - c.base).toNat ++ _ = _
          rw [hb, show ((a : Int) - 0).toNat = a by omega, h3, ← e, ← List.take_add]
        refine ⟨_, rfl, hs.1.conf, hs.1.id, hs.1.term, hs.1.base, hs.1.ban, hr.1, hr.2.1, hr.2.2, ?_, ?_, .inl ⟨_, hl⟩⟩
        · rw [hl, List.length_take]
          omega
        · rw [hl, List.take_take]
          by_cases hx : a + (k + 1) ≤ L.length
          · rw [show min (min (a + (k + 1)) L.length) (a + (k + 1)) = a + (k + 1) by omega, show min (a + (k + 1)) L.length = a + (k + 1) by omega]
          · rw [show min (min (a + (k + 1)) L.length) (a + (k + 1)) = L.length by omega, show min (a + (k + 1)) L.length = L.length by omega]

theorem appX_right {L : List Ent} (hL : MatL L) {x y : CoreD} (hx : MatX L x) (hy : MatY L x y) {a : Nat} (ha : x.next.getD 2 0 = (a : Int) + 1) : wrongD y (appX x L a) = false := by
  have hlen := hL.len
  have hmu := hx.mu
  have hcom := hx.com
  have hb : 0 ≤ (atD x a).1 ∧ (atD x a).1 ≤ 6 := by
    by_cases hz : a = 0
    · subst hz
      have := at_zero hx.base hx.baseTerm
      show 0 ≤ (atD x 0).1 ∧ (atD x 0).1 ≤ 6
      rw [this]
      decide
    · by_cases hl : a ≤ L.length
      · obtain ⟨e, he⟩ : ∃ e, x.l[a - 1]? = some e := ⟨x.l[a - 1]'(by rw [hx.log]; omega), List.getElem?_eq_getElem _⟩
        have h1 := at_some hx.base he
        rw [show ((a - 1 : Nat) : Int) + 1 = a by omega] at h1
        rw [h1]
        have h2 := hL.terms e (by rw [← hx.log]; exact List.mem_of_getElem? he)
        show 0 ≤ e.term ∧ e.term ≤ 6
        omega
      · have h1 := at_over (c := x) hx.base (i := a) (by rw [hx.log]; omega)
        rw [h1]
        decide
  have hany : ((L.drop a).take 8).any (fun e => !inD e.term 1 6) = false := by
    rw [List.any_eq_false]
    intro e he
    have := hL.terms e (List.mem_of_mem_drop (List.mem_of_mem_take he))
    simp [inD]
    exact this
  unfold wrongD
  show (wrongHead y (appX x L a) || ((L.drop a).take 8).any (fun e => !inD e.term 1 6)) = false
  rw [hany]
  rw [Bool.or_false]
  have hl8 : ((L.drop a).take 8).length ≤ 8 := by rw [List.length_take]; omega
  simp [wrongHead, appX, hy.conf, hy.id, cfL, inD]
  exact ⟨⟨⟨decide_eq_true (by omega), decide_eq_true (by omega), decide_eq_true (by omega)⟩, decide_eq_true (by omega), decide_eq_true (by omega)⟩, by omega⟩

/-- How the follower answers. -/
structure HearsY (L : List Ent) (x y y' : CoreD) (a : Nat) (o : Bool) (A : Int) : Prop where
  conf : y'.conf = cfL 3
  id : y'.id = 2
  role : y'.role = 0
  base : y'.base = 0
  baseTerm : y'.baseTerm = 0
  term : y'.term = 6
  leader : y'.leader = 1
  alike : Alike L y'.l
  yes : o = true → A = ((min (a + 8) L.length : Nat) : Int) ∧ A ≤ y'.l.length ∧ y'.l.take A.toNat = L.take A.toNat ∧ y'.commit = max y.commit (min x.commit A)
  no : o = false → x.matc.getD 2 0 < a ∧ y'.l = y.l ∧ y'.commit = y.commit ∧ 0 ≤ A ∧ A ≤ 100
  ban : y'.ban = y.ban

theorem hears_y {L : List Ent} (hL : MatL L) {x y : CoreD} (hx : MatX L x) (hy : MatY L x y) {a : Nat} (ha : x.next.getD 2 0 = (a : Int) + 1) :
    ∃ y' o A, hearD y (appX x L a) = (y', [ansY o A]) ∧ HearsY L x y y' a o A := by
  have hmu := hx.mu
  have hcom := hx.com
  have hw := appX_right hL hx hy ha
  have hal : a ≤ L.length := by omega
  obtain ⟨mu, hmv⟩ : ∃ mu : Nat, x.matc.getD 2 0 = mu := ⟨(x.matc.getD 2 0).toNat, by omega⟩
  have hyc := hy.com
  have hym := hy.mu
  have hys := hy.same
  rw [hmv] at hyc hym hys hmu hcom
  rw [show ((mu : Nat) : Int).toNat = mu by omega] at hys
  -- the step
  obtain ⟨c, hc, hcl, hcc, hcb, hcbt, hcid, hccf, hct, hcr, hcle, hcbn⟩ : ∃ c, c = followD (stepD y (appX x L a)) (appX x L a) ∧ c.l = y.l ∧ c.commit = y.commit ∧ c.base = 0 ∧ c.baseTerm = 0 ∧ c.id = 2 ∧ c.conf = cfL 3 ∧ c.term = 6 ∧ c.role = 0 ∧ c.leader = 1 ∧ c.ban = y.ban := by
    refine ⟨_, rfl, ?_⟩
    unfold stepD
    by_cases ht : y.term < (appX x L a).term
    · rw [if_pos ht]
      exact ⟨rfl, rfl, hy.base, hy.baseTerm, hy.id, hy.conf, rfl, rfl, rfl, rfl⟩
    · rw [if_neg ht]
      have h6 : y.term = 6 := by
        have h1 := hy.term
        have h2 : (appX x L a).term = 6 := rfl
        rw [h2] at ht
        omega
      exact ⟨rfl, rfl, hy.base, hy.baseTerm, hy.id, hy.conf, h6, rfl, rfl, rfl⟩
  have hst : (stepD y (appX x L a)).term = 6 := by
    rw [← hct, hc]
    rfl
  have hsr : (stepD y (appX x L a)).role = 0 := by
    unfold stepD
    split
    · rfl
    · exact hy.role
  have eh : hearD y (appX x L a) = appendAt c (appX x L a) a ((L.drop a).take 8) false := by
    unfold hearD
    rw [hw, if_neg (by decide)]
    unfold heardD
    rw [if_neg (by show ¬ (3 : Int) = 1; decide), if_neg (by show ¬ (3 : Int) = 2; decide), if_neg (by show ¬ (3 : Int) = 4; decide), if_neg (by rw [hst]; show ¬ (6 : Int) < 6; decide), if_neg, if_neg (by show ¬ (3 : Int) = 5; decide), ← hc]
    · unfold appendD
      rw [hcb, if_pos (by show (0 : Int) ≤ a; omega)]
      rfl
    · rintro (h | h)
      · rw [hsr] at h
        exact absurd h (by decide)
      · exact absurd h (by unfold snapNo; simp [appX])
  rw [eh]
  unfold appendAt
  have hcl' : c.l.take mu = L.take mu := by rw [hcl]; exact hys
  rcases hf : fitD c a (appX x L a).b false with _ | _
  · -- it does not fit
    have hgt : mu < a := by
      apply Classical.byContradiction
      intro hn
      have hn : a ≤ mu := by omega
      have : fitD c a (appX x L a).b false = true := by
        unfold fitD
        show ((atD c a).2 && (false || (atD c a).1 == (atD x a).1)) = true
        by_cases hz : a = 0
        · subst hz
          have h1 := at_zero hcb hcbt
          have h2 := at_zero hx.base hx.baseTerm
          show ((atD c 0).2 && (false || (atD c 0).1 == (atD x 0).1)) = true
          rw [h1, h2]
          decide
        · obtain ⟨e, he⟩ : ∃ e, x.l[a - 1]? = some e := ⟨x.l[a - 1]'(by rw [hx.log]; omega), List.getElem?_eq_getElem _⟩
          have h1 := at_some hx.base he
          have he2 : c.l[a - 1]? = some e := by rw [take_get hcl' (by omega), ← hx.log]; exact he
          have h2 := at_some hcb he2
          rw [show ((a - 1 : Nat) : Int) + 1 = a by omega] at h1 h2
          rw [h1, h2]
          simp
      rw [hf] at this
      cases this
    refine ⟨c, false, max c.commit (min (lastD c) ((a : Int) - 1)), ?_, hccf, hcid, hcr, hcb, hcbt, hct, hcle, by rw [hcl]; exact hy.alike, fun h => (by cases h), fun _ => ⟨by omega, hcl, hcc, by omega, ?_⟩, hcbn⟩
    · show (c, answerD c (appX x L a) false _) = _
      unfold answerD saysD ansY msg0
      rw [hcid, hct]
      rfl
    · have := hL.len
      omega
  · -- it fits
    have hsame : a ≤ c.l.length ∧ c.l.take a = L.take a := by
      by_cases hz : a = 0
      · subst hz
        exact ⟨Nat.zero_le _, rfl⟩
      · have hf2 : (atD c a).2 = true ∧ (atD c a).1 = (atD x a).1 := by
          unfold fitD at hf
          simp only [Bool.and_eq_true] at hf
          refine ⟨hf.1, ?_⟩
          have := hf.2
          show (atD c a).1 = (appX x L a).b
          simpa using this
        have hle : a ≤ c.l.length := by
          apply Classical.byContradiction
          intro hn
          rw [at_over hcb (by omega)] at hf2
          exact absurd hf2.1 (by decide)
        obtain ⟨e, he⟩ : ∃ e, x.l[a - 1]? = some e := ⟨x.l[a - 1]'(by rw [hx.log]; omega), List.getElem?_eq_getElem _⟩
        obtain ⟨e2, he2⟩ : ∃ e, c.l[a - 1]? = some e := ⟨c.l[a - 1]'(by omega), List.getElem?_eq_getElem _⟩
        have h1 := at_some hx.base he
        have h2 := at_some hcb he2
        rw [show ((a - 1 : Nat) : Int) + 1 = a by omega] at h1 h2
        rw [h1, h2] at hf2
        have h3 := hy.alike.at_ (i := a - 1) (by rw [← hx.log]; exact he) (by rw [← hcl]; exact he2) hf2.2
        rw [show a - 1 + 1 = a by omega] at h3
        exact ⟨hle, by rw [hcl]; exact h3⟩
    obtain ⟨c', hp, hM⟩ := puts_takes hL hcb hcl' (by rw [hcl]; omega) (by rw [hcc]; omega) (by rw [hcl]; exact hy.alike) 8 a hsame.1 hal hsame.2
    rw [hp]
    have eA : (a : Int) + (((L.drop a).take 8).length : Int) = ((min (a + 8) L.length : Nat) : Int) := by
      rw [List.length_take, List.length_drop]
      omega
    refine ⟨{ c' with commit := max c.commit (min x.commit ((a : Int) + (((L.drop a).take 8).length : Int))) }, true, (a : Int) + (((L.drop a).take 8).length : Int), ?_, hM.conf.trans hccf, hM.id.trans hcid, hM.role.trans hcr, hM.base.trans hcb, hM.baseTerm.trans hcbt, hM.term.trans hct, hM.leader.trans hcle, hM.alike, fun _ => ⟨eA, ?_, ?_, by rw [hcc]⟩, fun h => (by cases h), hM.ban.trans hcbn⟩
    · show (_, answerD c (appX x L a) true _) = _
      unfold answerD saysD ansY msg0
      rw [hcid, hct]
      rfl
    · rw [eA]
      have := hM.len
      show ((min (a + 8) L.length : Nat) : Int) ≤ (c'.l.length : Int)
      omega
    · rw [eA]
      exact hM.same

theorem ansY_right {L : List Ent} {x : CoreD} (hx : MatX L x) {o : Bool} {A : Int} (hA : 0 ≤ A ∧ A ≤ 100) : wrongD x (ansY o A) = false ∧ stepD x (ansY o A) = x := by
  constructor
  · have e : ((ansY o A).entries.any fun e => !inD e.term 1 (ansY o A).term) = false := rfl
    unfold wrongD
    rw [e, Bool.or_false]
    simp [wrongHead, ansY, hx.conf, hx.id, cfL, inD]
    exact ⟨decide_eq_true (by omega), decide_eq_true (by omega)⟩
  · unfold stepD
    rw [if_neg (by rw [hx.term]; show ¬ (6 : Int) < 6; decide)]
theorem hear_ans {L : List Ent} {x : CoreD} (hx : MatX L x) {o : Bool} {A : Int} (hA : 0 ≤ A ∧ A ≤ 100) : hearD x (ansY o A) = appendedD x (ansY o A) := by
  unfold hearD
  rw [(ansY_right hx hA).1, if_neg (by decide), (ansY_right hx hA).2]
  unfold heardD
  rw [if_neg (by show ¬ (4 : Int) = 1; decide), if_neg (by show ¬ (4 : Int) = 2; decide), if_pos (by rfl)]

/-- Both, behind h rounds. -/
structure MatH (L : List Ent) (h : Nat) (x y : CoreD) : Prop where
  mx : MatX L x
  my : MatY L x y
  prog : (h : Int) ≤ x.matc.getD 2 0 ∨ x.matc.getD 2 0 = L.length
  last : 26 ≤ h → y.commit = L.length
  told : 1 ≤ h → y.leader = 1 ∧ y.term = 6

theorem get_set_same {l : List Int} {i : Nat} {v : Int} (h : i < l.length) : (l.set i v).getD i 0 = v := by
  rw [List.getD_eq_getElem?_getD, List.getElem?_set_self h]
  rfl
theorem get_set_other {l : List Int} {i j : Nat} {v : Int} (h : i ≠ j) : (l.set i v).getD j 0 = l.getD j 0 := by
  rw [List.getD_eq_getElem?_getD, List.getElem?_set_ne h, ← List.getD_eq_getElem?_getD]

theorem x_no {L : List Ent} {h : Nat} {x y y' : CoreD} {a : Nat} {A : Int} (H : MatH L h x y) (ha : x.next.getD 2 0 = (a : Int) + 1) (hy : HearsY L x y y' a false A) :
    ∃ x', hearD x (ansY false A) = (x', [sendD x' 2]) ∧ MatH L h x' y' ∧ x'.next.getD 2 0 + 1 ≤ x.next.getD 2 0 ∧ x'.patience = x.patience ∧ x'.ban = x.ban := by
  have hx := H.mx
  obtain ⟨n1, n2, n3, n4, n5⟩ := hy.no rfl
  have hc := hx.com
  have hm := hx.mu
  have hn2 : (2 : Nat) < x.next.length := by rw [hx.nlen]; decide
  have e : (appNo x (ansY false A)).next.getD 2 0 = max (x.matc.getD 2 0 + 1) (if A < x.next.getD 2 0 - 1 - 1 then A + 1 else x.next.getD 2 0 - 1) := get_set_same hn2
  have hb : x.matc.getD 2 0 + 1 ≤ (appNo x (ansY false A)).next.getD 2 0 ∧ (appNo x (ansY false A)).next.getD 2 0 + 1 ≤ x.next.getD 2 0 := by
    rw [e]
    split <;> omega
  refine ⟨appNo x (ansY false A), ?_, ⟨⟨hx.conf, hx.id, hx.term, hx.role, hx.base, hx.baseTerm, hx.log, ?_, hx.mlen, hx.m3, hx.com, ⟨hb.1, by omega⟩, hx.full⟩, ⟨hy.conf, hy.id, hy.role, hy.base, hy.baseTerm, by rw [hy.term]; decide, by rw [n3]; exact H.my.com, by rw [n2]; exact H.my.mu, by rw [n2]; exact H.my.same, hy.alike⟩, H.prog, fun h1 => by rw [n3]; exact H.last h1, fun _ => ⟨hy.leader, hy.term⟩⟩, hb.2, rfl, rfl⟩
  · rw [hear_ans hx ⟨n4, n5⟩]
    unfold appendedD
    rw [if_neg, if_pos (by rfl)]
    · rfl
    · rintro (g | g | g)
      · exact g hx.term.symm
      · exact g hx.role
      · exact absurd g.1 (by show ¬ (false = true); decide)
  · show (x.next.set _ _).length = 8
    rw [List.length_set]
    exact hx.nlen

theorem have_two {x : CoreD} (hc : x.conf = cfL 3) (hi : x.id = 1) (h3 : x.matc.getD 3 0 = 0) {i : Int} (h1 : 1 ≤ i) : (x.conf.nodes / 2 < haveD x i x.conf.nodes.toNat) ↔ i ≤ x.matc.getD 2 0 := by
  have e : haveD x i x.conf.nodes.toNat = 1 + (if i ≤ x.matc.getD 2 0 then 1 else 0) := by
    rw [hc]
    show (((1 : Int) + (if ((1 : Nat) : Int) ≠ x.id ∧ i ≤ x.matc.getD 1 0 then 1 else 0)) + (if ((2 : Nat) : Int) ≠ x.id ∧ i ≤ x.matc.getD 2 0 then 1 else 0)) + (if ((3 : Nat) : Int) ≠ x.id ∧ i ≤ x.matc.getD 3 0 then 1 else 0) = _
    rw [hi, h3]
    have z1 : (if ((1 : Nat) : Int) ≠ 1 ∧ i ≤ x.matc.getD 1 0 then (1 : Int) else 0) = 0 := if_neg (fun h => h.1 rfl)
    have z3 : (if ((3 : Nat) : Int) ≠ 1 ∧ i ≤ 0 then (1 : Int) else 0) = 0 := if_neg (fun h => by have := h.2; omega)
    have z2 : (if ((2 : Nat) : Int) ≠ 1 ∧ i ≤ x.matc.getD 2 0 then (1 : Int) else 0) = if i ≤ x.matc.getD 2 0 then 1 else 0 := by
      by_cases h : i ≤ x.matc.getD 2 0
      · rw [if_pos h, if_pos ⟨by decide, h⟩]
      · rw [if_neg h, if_neg (fun hh => h hh.2)]
    rw [z1, z2, z3]
    omega
  rw [e, hc]
  show (3 : Int) / 2 < _ ↔ _
  split <;> omega
theorem agrees_le {x : CoreD} (hc : x.conf = cfL 3) (hi : x.id = 1) (h3 : x.matc.getD 3 0 = 0) (h0 : 0 ≤ x.commit ∧ x.commit ≤ x.matc.getD 2 0) : ∀ k, agreesTo x k ≤ x.matc.getD 2 0
  | 0 => h0.2
  | k + 1 => by
    unfold agreesTo
    split
    · rename_i h
      exact (have_two hc hi h3 (by omega)).1 h.2
    · exact agrees_le hc hi h3 h0 k
theorem agrees_all {L : List Ent} (hL : MatL L) {x : CoreD} (hc : x.conf = cfL 3) (hi : x.id = 1) (h3 : x.matc.getD 3 0 = 0) (hb : x.base = 0) (hl : x.l = L) (ht : x.term = 6) (hm : x.matc.getD 2 0 = L.length) (h0 : 0 ≤ x.commit ∧ x.commit ≤ x.matc.getD 2 0) : agreesTo x (lastD x - x.commit).toNat = L.length := by
  have el : lastD x = L.length := by unfold lastD; rw [hb, hl]; omega
  rcases hk : (lastD x - x.commit).toNat with _ | k
  · show x.commit = _
    omega
  · have ei : x.commit + ((k + 1 : Nat) : Int) = L.length := by omega
    unfold agreesTo
    rw [ei, if_pos]
    refine ⟨?_, (have_two hc hi h3 (by omega)).2 (by omega)⟩
    obtain ⟨L0, e, h1, h2⟩ := hL.last
    have hz : x.l[L.length - 1]? = some e := by
      rw [hl, h1]
      simp
    have := at_some hb hz
    have hp : 0 < L.length := by rw [h1]; simp
    rw [show ((L.length - 1 : Nat) : Int) + 1 = L.length by omega] at this
    rw [this, ht]
    exact h2

theorem x_yes {L : List Ent} (hL : MatL L) {h : Nat} {x y y' : CoreD} {a : Nat} {A : Int} (H : MatH L h x y) (ha : x.next.getD 2 0 = (a : Int) + 1) (hy : HearsY L x y y' a true A) :
    ∃ x', hearD x (ansY true A) = (x', []) ∧ MatH L (h + 1) x' y' ∧ x'.patience = x.patience ∧ x'.ban = x.ban := by
  have hx := H.mx
  obtain ⟨n1, n2, n3, n4⟩ := hy.yes rfl
  have hc := hx.com
  have hm := hx.mu
  have hlen := hL.len
  have hyc := H.my.com
  have hpr := H.prog
  have hful := hx.full
  have hn2 : (2 : Nat) < x.next.length := by rw [hx.nlen]; decide
  have hm2 : (2 : Nat) < x.matc.length := by rw [hx.mlen]; decide
  have em : (appYes x (ansY true A)).matc.getD 2 0 = A := by
    show (x.matc.set 2 (max (x.matc.getD 2 0) A)).getD 2 0 = A
    rw [get_set_same hm2]
    omega
  have em3 : (appYes x (ansY true A)).matc.getD 3 0 = 0 := by
    show (x.matc.set 2 (max (x.matc.getD 2 0) A)).getD 3 0 = 0
    rw [get_set_other (by decide)]
    exact hx.m3
  have en : (appYes x (ansY true A)).next.getD 2 0 = A + 1 := by
    show (x.next.set 2 (max (x.next.getD 2 0) ((x.matc.set 2 (max (x.matc.getD 2 0) A)).getD 2 0 + 1))).getD 2 0 = A + 1
    rw [get_set_same hn2, get_set_same hm2]
    omega
  have h0 : 0 ≤ (appYes x (ansY true A)).commit ∧ (appYes x (ansY true A)).commit ≤ (appYes x (ansY true A)).matc.getD 2 0 := by
    rw [em]
    show 0 ≤ x.commit ∧ x.commit ≤ A
    omega
  have hle := agrees_le (x := appYes x (ansY true A)) hx.conf hx.id em3 h0 (lastD (appYes x (ansY true A)) - (appYes x (ansY true A)).commit).toNat
  have hge := (agreesTo_bd (appYes x (ansY true A)) (lastD (appYes x (ansY true A)) - (appYes x (ansY true A)).commit).toNat).1
  rw [em] at hle
  refine ⟨agreesD (appYes x (ansY true A)), ?_, ⟨⟨hx.conf, hx.id, hx.term, hx.role, hx.base, hx.baseTerm, hx.log, ?_, ?_, em3, ⟨?_, ?_⟩, ⟨?_, ?_⟩, ?_⟩, ⟨hy.conf, hy.id, hy.role, hy.base, hy.baseTerm, by rw [hy.term]; decide, ?_, ?_, ?_, hy.alike⟩, ?_, fun h1 => ?_, fun _ => ⟨hy.leader, hy.term⟩⟩, rfl, rfl⟩
  · rw [hear_ans hx (by omega)]
    unfold appendedD
    rw [if_neg, if_neg (by show ¬ (true = false); decide)]
    rintro (g | g | g)
    · exact g hx.term.symm
    · exact g hx.role
    · have h1 := g.2
      have h2 : lastD x = L.length := by unfold lastD; rw [hx.base, hx.log]; omega
      have h3 : (ansY true A).a = A := rfl
      omega
  · show (x.next.set _ _).length = 8
    rw [List.length_set]
    exact hx.nlen
  · show (x.matc.set _ _).length = 8
    rw [List.length_set]
    exact hx.mlen
  · show 0 ≤ agreesTo _ _
    have : (0 : Int) ≤ (appYes x (ansY true A)).commit := h0.1
    omega
  · show agreesTo _ _ ≤ (appYes x (ansY true A)).matc.getD 2 0
    rw [em]
    exact hle
  · show (appYes x (ansY true A)).matc.getD 2 0 + 1 ≤ (appYes x (ansY true A)).next.getD 2 0
    rw [em, en]
    omega
  · show (appYes x (ansY true A)).next.getD 2 0 ≤ _
    rw [en]
    omega
  · intro hf
    have hf : (appYes x (ansY true A)).matc.getD 2 0 = L.length := hf
    exact agrees_all hL (x := appYes x (ansY true A)) hx.conf hx.id em3 hx.base hx.log hx.term hf h0
  · show 0 ≤ y'.commit ∧ y'.commit ≤ (appYes x (ansY true A)).matc.getD 2 0
    rw [em, n4]
    omega
  · show (appYes x (ansY true A)).matc.getD 2 0 ≤ _
    rw [em]
    exact n2
  · show y'.l.take ((appYes x (ansY true A)).matc.getD 2 0).toNat = L.take ((appYes x (ansY true A)).matc.getD 2 0).toNat
    rw [em]
    exact n3
  · show ((h + 1 : Nat) : Int) ≤ (appYes x (ansY true A)).matc.getD 2 0 ∨ (appYes x (ansY true A)).matc.getD 2 0 = L.length
    rw [em]
    omega
  · have hf : x.matc.getD 2 0 = L.length := by omega
    have := hful hf
    rw [n4]
    omega

/-- At the end. -/
theorem mat_end {L : List Ent} (hL : MatL L) {x y : CoreD} (H : MatH L 30 x y) : lastD y = lastD x ∧ y.commit = x.commit ∧ x.commit = lastD x ∧ y.leader = 1 ∧ y.term = x.term ∧ fromD x 1 = L ∧ fromD y 1 = L := by
  have hm : x.matc.getD 2 0 = L.length := by
    have := H.prog
    have := H.mx.mu
    have := hL.len
    omega
  have hs := H.my.same
  rw [hm, show ((L.length : Nat) : Int).toNat = L.length by omega, List.take_length] at hs
  have hy : y.l = L := H.my.alike.whole hL hs
  have hc := H.mx.full hm
  have h1 : lastD x = L.length := by unfold lastD; rw [H.mx.base, H.mx.log]; omega
  have h2 : lastD y = L.length := by unfold lastD; rw [H.my.base, hy]; omega
  have ht := H.told (by decide)
  refine ⟨by omega, by rw [H.last (by decide)]; omega, by omega, ht.1, by rw [ht.2, H.mx.term], ?_, ?_⟩
  · unfold fromD
    rw [H.mx.base, H.mx.log]
    rfl
  · unfold fromD
    rw [H.my.base, hy]
    rfl

end Go.Proofs.Ytpppoajnbhipeaa

/- Two cores side by side: New of one that reads nothing old; calls of the one leave the other as it is. -/
namespace Go.Proofs.Ytpppoajnbhipeaa
open Go Go.RowKit

def withBan (f : Nat → Prop) (c : CoreD) : CoreD := { c with ban := f }
def banB (B : Nat) (c : CoreD) : CoreD := withBan (fun b => b < B) c
theorem withBan_ok {f : Nat → Prop} {c : CoreD} (h : CoreOk c) : CoreOk (withBan f c) :=
  { may := h.may, id := h.id, term := h.term, base := h.base, baseTerm := h.baseTerm, len := h.len, last := h.last, commit := h.commit, draw := h.draw, votes := h.votes, next := h.next, matc := h.matc, nexts := h.nexts, matcs := h.matcs, ents := h.ents, frm := h.frm, data := h.data, snap := h.snap }
theorem banB_ok {B : Nat} {c : CoreD} (h : CoreOk c) : CoreOk (banB B c) := withBan_ok h

def NewYesB (cf : ConfD) (id term vote base baseTerm : Int) (l : List Ent) (w : World) (e : Ending) (w' : World) : Prop :=
  ∃ n lv sv, e = .returned (.tuple #[.pointer (some ⟨n, 0, none⟩), .int .i64 0]) ∧ CoreAt w' w.heap.size n (banB w.heap.size (newD cf id term vote base baseTerm l)) lv sv ∧ Keeps [] w w'
def NewPostB (cf : ConfD) (id term vote base baseTerm : Int) (l : List Ent) (w : World) (e : Ending) (w' : World) : Prop :=
  (mayNewD cf id term vote base baseTerm l = true ∧ NewYesB cf id term vote base baseTerm l w e w') ∨ (mayNewD cf id term vote base baseTerm l = false ∧ NewNo w e w')

set_option maxRecDepth 100000 in
set_option maxHeartbeats 3200000 in
theorem cNewB_body (cf : ConfD) (id term vote base baseTerm : Int) (l : List Ent) (a : Option Addr) (cap : Nat) (P : Nat → Prop) (w : World) (hl : ListAt entL w P (.slice a l.length cap) l) (hd : ∀ e ∈ l, e.data.length ≤ 1000000) (h : headD cf id term vote base baseTerm l.length = true) :
    Calls Try.prog 14 #[confV cf, .int .i64 id, .int .i64 term, .int .i64 vote, .int .i64 base, .int .i64 baseTerm, .slice a l.length cap] w (NewPostB cf id term vote base baseTerm l w) := by
  obtain ⟨it, hi0, hz0, hz1, hz2⟩ := info_parts Try.infoEnt
  have HH := hid h
  have HLA := hid hl
  have HDA := hid hd
  simp only [headD, Bool.and_eq_true, decide_eq_true_eq] at h
  obtain ⟨⟨⟨⟨⟨⟨h0, h1⟩, h2⟩, h3⟩, h4⟩, h5⟩, h6⟩ := h
  have hm := (ConfD.may_iff cf).1 h0
  have F0 := hid h0
  have F1 := hid h1
  have F2 := hid h2
  have F3 := hid h3
  have F4 := hid h4
  have F5 := hid h5
  have hl5 : (l.length : Int) ≤ 5096 := by omega
  simp only [inD, Bool.and_eq_true, decide_eq_true_eq] at h1 h4
  have b1 : 1 ≤ id := h1.1
  have b2 : id ≤ 7 := by omega
  have b3 : 1 ≤ cf.heart := hm.2.2.1.1
  have b4 : cf.heart ≤ 100 := hm.2.2.1.2
  have p1 : 0 ≤ (id - 1) * (cf.heart + 6) := Int.mul_nonneg (by omega) (by omega)
  have p2 : (id - 1) * (cf.heart + 6) ≤ 6 * 106 := Int.mul_le_mul (by omega) (by omega) (by omega) (by omega)
  have HB : Hid (∀ (w1 : World) d, d = min ((id - 1) * (cf.heart + 6)) cf.range → w.heap.size ≤ w1.heap.size → ∃ cs, cs = #[.int .i64 cf.nodes, .int .i64 cf.clients, .int .i64 cf.heart, .int .i64 cf.lo, .int .i64 cf.range, .int .i64 cf.sessions, .int .i64 cf.snap, .int .i64 cf.room, .int .i64 cf.retry, .int .i64 id, .int .i64 term, .int .i64 vote, .int .i64 0, .int .i64 0, .int .i64 base, .int .i64 base, .int .i64 baseTerm, .slice none 0 0, .slice none 0 0, .int .i64 d, .int .i64 0,
      .bool false, .bool false, .bool false, .bool false, .bool false, .bool false, .bool false, .bool false, .int .i64 0, .int .i64 0, .int .i64 0, .int .i64 0, .int .i64 0, .int .i64 0, .int .i64 0, .int .i64 0, .int .i64 0, .int .i64 0, .int .i64 0, .int .i64 0, .int .i64 0, .int .i64 0, .int .i64 0, .int .i64 0, .bool false, .int .i64 0, .bool false] ∧
      CoreAt (w1.alloc (.cells cs 89)) w.heap.size w1.heap.size (banB w.heap.size (newD cf id term vote base baseTerm [])) (.slice none 0 0) (.slice none 0 0)) := fun w1 d hd hz => by
    refine ⟨_, rfl, { blk := ?_, own := OwnAt.nil _ _ _ _, snap := BytesAt.nil _ _ _ _, apart := by simp [mem_ownB, Value.ownBlock], base := hz, old := fun b h => by have h : b < w.heap.size := h; simp; omega, free := ⟨fun h => by have h : w1.heap.size < w.heap.size := h; omega, fun b hb _ => by simp [mem_ownB, Value.ownBlock] at hb⟩, ok := banB_ok (newD_ok (mayNew_take HH.out (Nat.zero_le _) (by simp)) (by simp)) }⟩
    subst hd
    exact heap_alloc_new _ _
  clear hl hd h0 h1 h2 h3 h4 h5 h6 hm
  rcases (show (id - 1) * (cf.heart + 6) ≤ cf.range ∨ cf.range < (id - 1) * (cf.heart + 6) by omega) with hmin | hmin
  all_goals
    unfold confV
    go_enter Try.func14, Try.ntmps14
    go_wp2_with fail
    refine (cMay_is true cf _ F0.out).mono ?_
    rintro e w1 ⟨rfl, k1⟩
    have K1 : Hid (Keeps [] w w1) := (((Keeps.refl [] w).alloc _).trans k1 (fun _ _ h => h))
    obtain ⟨⟨c0, c1, c2, c3, c4, c5, c6, c7, c8⟩, f1⟩ := blk9 ((k1.block w.heap.size (by simp) (by simp)).trans (heap_alloc_new w _))
    clear k1
    go_wp2_with fail
    refine (cin_is true _ _ _ _ F1.out).mono ?_
    rintro e w' ⟨rfl, hw'⟩
    subst hw'
    go_wp2_with fail
    refine (cin_is true _ _ _ _ F2.out).mono ?_
    rintro e w' ⟨rfl, hw'⟩
    subst hw'
    go_wp2_with fail
    refine (cin_is true _ _ _ _ F3.out).mono ?_
    rintro e w' ⟨rfl, hw'⟩
    subst hw'
    go_wp2_with fail
    refine (cin_is true _ _ _ _ F4.out).mono ?_
    rintro e w' ⟨rfl, hw'⟩
    subst hw'
    go_wp2_with fail
    refine (cin_is true _ _ _ _ F5.out).mono ?_
    rintro e w' ⟨rfl, hw'⟩
    subst hw'
    have hlen : (l.length : Int) ≤ 5096 := hl5
    go_wp2_with fail
    go_loopw [76] (fun i wr => ∃ k : Nat, k ≤ l.length ∧ i = .int .i64 k ∧ Hid (∃ lv sv, CoreAt wr w.heap.size w'.heap.size (banB w.heap.size (newD cf id term vote base baseTerm (l.take k))) lv sv ∧ (∃ q c, lv = .slice q k c) ∧ Keeps [] w wr ∧ ∀ e ∈ l.take k, inD e.term 1 1099511627776 = true)) (fun i _ => l.length - (intOf i).toNat)
    case atStart =>
      obtain ⟨cs, hcs, hC⟩ := HB.out w' _ rfl K1.out.size
      rw [hcs] at hC
      first
        | (rw [show min ((id - 1) * (cf.heart + 6)) cf.range = (id - 1) * (cf.heart + 6) by omega] at hC; exact ⟨0, Nat.zero_le _, rfl, .slice none 0 0, .slice none 0 0, hC, ⟨_, _, rfl⟩, K1.out.alloc _, by simp⟩)
        | (rw [show min ((id - 1) * (cf.heart + 6)) cf.range = cf.range by omega] at hC; exact ⟨0, Nat.zero_le _, rfl, .slice none 0 0, .slice none 0 0, hC, ⟨_, _, rfl⟩, K1.out.alloc _, by simp⟩)
    case round =>
      obtain ⟨k, hk, rfl, HW⟩ := hrel
      obtain ⟨lv, sv, hc, ⟨q, cq, hlv⟩, hkk, hal⟩ := HW.out
      subst hlv
      clear HW
      have HC := hid hc
      have HK := hid hkk
      have HAL := hid hal
      have x17 : wr.cell? ⟨w'.heap.size, 17, none⟩ = some (.slice q k cq) := hc.blk.cell 17
      clear hc hkk hal
      by_cases hlt : k < l.length
      · have i0 : (0 : Int) ≤ (k : Int) := Int.natCast_nonneg _
        have i1 : (k : Int) < (l.length : Int) := by omega
        obtain ⟨e, he⟩ : ∃ e, l[k]? = some e := ⟨l[k], List.getElem?_eq_getElem hlt⟩
        obtain ⟨g, off, cg, ha, hcg, hcm, hgl, hgP⟩ := (HLA.out.k HK.out).addr (fun hn => by rw [hn] at hlt; simp at hlt)
        simp at ha
        obtain ⟨ha, hcc⟩ := ha
        subst ha
        subst hcc
        obtain ⟨cs, ⟨v, rfl, hbv⟩, hcs⟩ := (HLA.out.k HK.out).get he
        have y0 : wr.cell? ⟨g, off + k * 3, none⟩ = some (.int .i64 e.term) := hcs 0 _ rfl
        have y1 : wr.cell? ⟨g, off + k * 3 + 1, none⟩ = some (.bool e.cmd) := hcs 1 _ rfl
        have y2 : wr.cell? ⟨g, off + k * 3 + 2, none⟩ = some v := hcs 2 _ rfl
        obtain ⟨va, vc, rfl⟩ := hbv.form
        have HBV := hid hbv.1
        have HDL : Hid (e.data.length ≤ 1000000) := HDA.out e (List.mem_of_getElem? he)
        have HE := hid he
        clear hcs hbv he hcm hcg
        rcases hq : inD e.term 1 1099511627776 with _ | _
        · have HF : Hid (mayNewD cf id term vote base baseTerm l = false) := by
            show _ = _
            rw [mayNew_head, HH.out]
            simp only [Bool.true_and, List.all_eq_false]
            exact ⟨e, List.mem_of_getElem? HE.out, by simp [hq]⟩
          have HQ := hid hq
          clear hq
          go_wp2_with fail
          refine (cin_is false _ _ _ _ HQ.out).mono ?_
          rintro z w3 ⟨rfl, hw3⟩
          subst hw3
          go_wp2_with fail
          go_ret2
          exact .inr ⟨HF.out, rfl, HK.out.alloc _⟩
        · have HQ := hid hq
          clear hq
          have HT : Hid (l.take (k + 1) = l.take k ++ [e]) := by
            show _ = _
            rw [List.take_add_one, HE.out]
            rfl
          have HTL : Hid ((l.take k).length = k) := by show _ = _; simp; omega
          have HA2 : Hid (∀ e ∈ l.take (k + 1), inD e.term 1 1099511627776 = true) := by
            show ∀ _, _
            rw [HT.out]
            intro x hx
            rcases List.mem_append.1 hx with hx | hx
            · exact HAL.out x hx
            · simp at hx; subst hx; exact HQ.out
          have HOK : Hid (CoreOk (banB w.heap.size (newD cf id term vote base baseTerm (l.take (k + 1))))) := banB_ok (newD_ok (mayNew_take HH.out (by simp; omega) HA2.out) (fun x hx => HDA.out x (List.mem_of_mem_take hx)))
          have hle : e.data.length ≤ 1000000 := HDL.out
          have hk5 : k ≤ 5096 := by omega
          have HZW : Hid (w'.heap.size < wr.heap.size) := HC.out.blk.lt
          go_wp2_with fail
          refine (cin_is true _ _ _ _ HQ.out).mono ?_
          rintro z w3 ⟨rfl, hw3⟩
          have HW3 := hid hw3
          have x17' : w3.cell? ⟨w'.heap.size, 17, none⟩ = some (.slice q k cq) := by rw [hw3, World.cell?_alloc_lt _ _ _ HZW.out]; exact x17
          have z0 : w3.cell? ⟨wr.heap.size, 0, none⟩ = some (.int .i64 e.term) := by rw [hw3]; simp
          have z1 : w3.cell? ⟨wr.heap.size, 1, none⟩ = some (.bool e.cmd) := by rw [hw3]; simp
          have z2 : w3.cell? ⟨wr.heap.size, 2, none⟩ = some (.slice va e.data.length vc) := by rw [hw3]; simp
          have K3 : Hid (Keeps [] wr w3) := by rw [hw3]; exact (Keeps.refl [] wr).alloc _
          clear hw3
          go_wp2_with fail
          refine Plan.wp_region_plan (fun wx => wx.cell? ⟨w'.heap.size, 17, none⟩ = some (.slice q k cq) ∧ wx.cell? ⟨wr.heap.size, 0, none⟩ = some (.int .i64 e.term) ∧ wx.cell? ⟨wr.heap.size, 1, none⟩ = some (.bool e.cmd) ∧ wx.cell? ⟨wr.heap.size, 2, none⟩ = some (.slice va e.data.length vc)) 9 [(true, 0), (true, 1), (true, 2), (true, 3), (true, 4), (true, 5), (false, 6), (false, 7), (false, 8)] (by kernel_rfl) (by as_aux_lemma => kernel_rfl) (by kernel_rfl) (fun _ _ _ _ _ h => h) ?_ (fun hS => ?_)
          (· exact ⟨x17', z0, z1, z2⟩)
          simp only [Plan.pick, List.append_eq, List.cons_append, List.nil_append, List.getElem?_cons_zero, List.getElem?_cons_succ, Option.getD_some, List.drop_succ_cons, List.drop_zero]
          repeat (first | (refine Plan.take (v := ?_) (a' := ?_) (by rfl) ?_ ?_ ?_; rotate_left 2; (· (intro w' hS'; (try dsimp only at hS'); go_simp; try with_reducible rfl)); (· (simp only [Act.put, List.setIfInBounds_toArray, List.set_cons_zero, List.set_cons_succ]; try with_reducible rfl))) | (refine Plan.pass (a' := ?_) (by rfl) ?_ ?_; rotate_left 1; (· (simp only [Act.put, List.setIfInBounds_toArray, List.set_cons_zero, List.set_cons_succ]; try with_reducible rfl))))
          refine Plan.step ?_
          go_wp2_with fail
          refine (own_any e _ _ (by exact HBV.out.keeps (F := []) K3.out.drew (fun _ _ h => by cases h)) (by omega)).mono ?_
          rintro z w4 ⟨a4, q4, rfl, ho4, hk4⟩
          unfold entV
          have K4 : Hid (Keeps [] wr w4) := K3.out.drew.trans hk4 (fun _ _ h => h)
          have HEL : Hid (∀ wx, Keeps [] w4 wx → entL.at_ wx (fun b => w3.heap.size ≤ b) [.int .i64 e.term, .bool e.cmd, .slice a4 e.data.length q4] e) := ent_elem ho4 (fun b hb => hb)
          have a17 := hk4.cellSome x17' (by simp)
          have b0 := hk4.cellSome z0 (by simp)
          have b1 := hk4.cellSome z1 (by simp)
          have b2 := hk4.cellSome z2 (by simp)
          have HOW : Hid (OwnAt entL 59 w4 w.heap.size (fun b => (b ≠ w'.heap.size ∧ ¬ b < w.heap.size) ∧ b ∉ ownB (.slice q k cq)) (.slice q k cq) (l.take k)) := (OwnAt.k HC.out.own K4.out).mono (fun _ _ h => ⟨⟨h.1.1, h.2⟩, h.1.2⟩)
          have HBB : Hid (∀ b, w3.heap.size ≤ b → (b ≠ w'.heap.size ∧ ¬ b < w.heap.size) ∧ b ∉ ownB (.slice q k cq)) := fun b hb => by
            have z3 := K3.out.size
            have z4 := HK.out.size
            refine ⟨⟨by have := HZW.out; omega, by omega⟩, fun hb' => ?_⟩
            have := (HC.out.own.ge b hb').2
            omega
          have HZ4 : Hid (w.heap.size ≤ w4.heap.size) := Nat.le_trans HK.out.size K4.out.size
          clear ho4 hk4
          go_wp2_with fail
          refine ⟨⟨a17, b0, b1, b2⟩, ?_⟩
          refine Plan.step ?_
          go_wp2_with fail
          refine ⟨⟨((Keeps.refl [] w4).alloc _).cellSome a17 (by simp), ((Keeps.refl [] w4).alloc _).cellSome b0 (by simp), ((Keeps.refl [] w4).alloc _).cellSome b1 (by simp), ((Keeps.refl [] w4).alloc _).cellSome b2 (by simp)⟩, ?_⟩
          refine Plan.step ?_
          go_wp2_with (at_builtin; go_must (refine wpList_append_off (L := entL) (PB := fun b => w3.heap.size ≤ b) _ (by rfl) _ _ _ (by rfl) w.heap.size 59 it _ 40 Try.underlying35 hi0 hz0 hz1 hz2 rfl (R := fun b => b ≠ w'.heap.size ∧ ¬ b < w.heap.size) (.slice q k cq) (by rfl) (l.take k) [e] k HTL.out [[.int .i64 e.term, .bool e.cmd, .slice a4 e.data.length q4]] (HOW.out.k ((Keeps.refl [] _).alloc _)) (.slice _ _ _) (by rfl) 1 rfl (ElemsAt.one1 (HEL.out _ ((Keeps.refl [] _).alloc _))) (Reads.one1 (heap_alloc_new _ _) rfl) (by omega) (le_maxLen (by omega)) (by exact Nat.le_trans HZ4.out ((Keeps.refl [] _).alloc _).size) (fun b _ hb => HBB.out b hb) ?_; intro a5 q5 w5 ho5 hk5 hv5))
          have hap : w'.heap.size ∉ ownB (.slice q k cq) := HC.out.apart
          have hap2 : wr.heap.size ∉ ownB (.slice q k cq) := fun hb => by have := (HC.out.own.ge _ hb).2; omega
          have e17 := hk5.out.cellSome (((Keeps.refl [] w4).alloc _).cellSome a17 (by simp)) hap
          have e0 := hk5.out.cellSome (((Keeps.refl [] w4).alloc _).cellSome b0 (by simp)) hap2
          have e1 := hk5.out.cellSome (((Keeps.refl [] w4).alloc _).cellSome b1 (by simp)) hap2
          have e2 := hk5.out.cellSome (((Keeps.refl [] w4).alloc _).cellSome b2 (by simp)) hap2
          have hfz : w5.frozen? ⟨w'.heap.size, 17, none⟩ = false := by
            have h1 := (K4.out.alloc (.cells #[.int .i64 e.term, .bool e.cmd, .slice a4 e.data.length q4] 59))
            exact (hk5.out.frozen (a := ⟨w'.heap.size, 17, none⟩) (Nat.lt_of_lt_of_le HZW.out h1.size) hap).trans ((h1.frozen (a := ⟨w'.heap.size, 17, none⟩) HZW.out (by simp)).trans (HC.out.blk.free 17))
          refine ⟨⟨e17, e0, e1, e2⟩, ?_⟩
          refine Plan.fin ?_
          have HG := hid (HC.out.grow (K4.out.alloc (.cells #[.int .i64 e.term, .bool e.cmd, .slice a4 e.data.length q4] 59)) (l' := l.take (k + 1)) (by rw [HT.out]; exact ho5.out) hk5.out hv5.out rfl HOK.out)
          clear e0 e1 e2 a17 b0 b1 b2 z0 z1 z2 x17' x17
          go_wp2_with fail
          go_roundw
          case rel => exact ⟨k + 1, by omega, by go_num, _, sv, HG.out.1, ⟨_, _, rfl⟩, HK.out.trans HG.out.2 (fun b hb hb' => by have := (HC.out.lt b hb').1; omega), HA2.out⟩
          case measure => simp [intOf]; omega
      · have hkl : k = l.length := by omega
        subst hkl
        rw [List.take_length] at HC HAL
        have HT : Hid (mayNewD cf id term vote base baseTerm l = true) := mayNew_take HH.out (Nat.le_refl _) HAL.out
        go_wp2_with fail
        go_ret2
        exact .inl ⟨HT.out, _, _, sv, rfl, HC.out, HK.out⟩

theorem cNewB_any (cf : ConfD) (id term vote base baseTerm : Int) (l : List Ent) (a : Option Addr) (cap : Nat) (P : Nat → Prop) (w : World) (hl : ListAt entL w P (.slice a l.length cap) l) (hd : ∀ e ∈ l, e.data.length ≤ 1000000) :
    Calls Try.prog 14 #[confV cf, .int .i64 id, .int .i64 term, .int .i64 vote, .int .i64 base, .int .i64 baseTerm, .slice a l.length cap] w (NewPostB cf id term vote base baseTerm l w) := by
  rcases h : headD cf id term vote base baseTerm l.length with _ | _
  · exact (cNew_head cf id term vote base baseTerm l a cap w h).mono fun e w' hx => .inr ⟨by rw [mayNew_head, h]; rfl, hx⟩
  · exact cNewB_body cf id term vote base baseTerm l a cap P w hl hd h

/-! Two cores. -/
theorem CoreAt.banMore {w w' : World} {B n : Nat} {c : CoreD} {lv sv : Value} {G : List Nat} (h : CoreAt w B n c lv sv) (k : Keeps G w w') (hG : ∀ b ∈ G, c.ban b) : CoreAt w' B n (withBan (fun b => c.ban b ∨ (w.heap.size ≤ b ∧ b < w'.heap.size)) c) lv sv := by
  have nb : ∀ b, b < w.heap.size → ¬ c.ban b → ¬ (c.ban b ∨ (w.heap.size ≤ b ∧ b < w'.heap.size)) := fun b h1 h2 h3 => by
    rcases h3 with h3 | h3
    · exact h2 h3
    · omega
  have hn : n ∉ G := fun hb => h.free.1 (hG n hb)
  have hv : ∀ b ∈ ownB lv, b ∉ G := fun b hb hb' => h.free.2 b hb (hG b hb')
  exact { blk := h.blk.keep k hn, own := ((h.own.mono (P' := fun b => Off n lv b ∧ ¬ (c.ban b ∨ (w.heap.size ≤ b ∧ b < w'.heap.size))) (fun b h1 h2 => ⟨h2.1, nb b h1 h2.2⟩)).keep k hv (fun b hb hb' => hb.2 (.inl (hG b hb')))), snap := ((h.snap.mono (P' := fun b => Off n lv b ∧ ¬ (c.ban b ∨ (w.heap.size ≤ b ∧ b < w'.heap.size))) (fun b h1 h2 => ⟨h2.1, nb b h1 h2.2⟩)).keep k (fun b hb hb' => hb.2 (.inl (hG b hb')))), apart := h.apart, base := h.base,
          old := fun b hb => by
            rcases hb with hb | hb
            · exact Nat.lt_of_lt_of_le (h.old b hb) k.size
            · exact hb.2
          free := ⟨nb n (h.lt n (by simp)).2 h.free.1, fun b hb => nb b (h.lt b (List.mem_cons_of_mem _ hb)).2 (h.free.2 b hb)⟩
          ok := withBan_ok h.ok }

/-- Each bans the other one's blocks. -/
structure TwoAt (w : World) (B n : Nat) (x : CoreD) (lv sv : Value) (C m : Nat) (y : CoreD) (mv tv : Value) : Prop where
  cx : CoreAt w B n x lv sv
  cy : CoreAt w C m y mv tv
  bx : ∀ b ∈ m :: ownB mv, x.ban b
  by_ : ∀ b ∈ n :: ownB lv, y.ban b
theorem TwoAt.symm {w : World} {B n : Nat} {x : CoreD} {lv sv : Value} {C m : Nat} {y : CoreD} {mv tv : Value} (h : TwoAt w B n x lv sv C m y mv tv) : TwoAt w C m y mv tv B n x lv sv := ⟨h.cy, h.cx, h.by_, h.bx⟩
/-- A call of the one: all that it makes is banned by the other one. -/
theorem TwoAt.call {w w' : World} {B n : Nat} {x x' : CoreD} {lv sv lv' sv' : Value} {C m : Nat} {y : CoreD} {mv tv : Value} (h : TwoAt w B n x lv sv C m y mv tv) (hx : CoreAt w' B n x' lv' sv') (hb : x'.ban = x.ban) (k : Keeps (n :: ownB lv) w w') (hv : ∀ b ∈ ownB lv', b ∈ ownB lv ∨ w.heap.size ≤ b) :
    TwoAt w' B n x' lv' sv' C m (withBan (fun b => y.ban b ∨ (w.heap.size ≤ b ∧ b < w'.heap.size)) y) mv tv := by
  refine ⟨hx, h.cy.banMore k h.by_, fun b hm => by rw [hb]; exact h.bx b hm, fun b hm => ?_⟩
  rcases List.mem_cons.1 hm with rfl | hm
  · exact .inl (h.by_ b (by simp))
  · rcases hv b hm with h1 | h1
    · exact .inl (h.by_ b (List.mem_cons_of_mem _ h1))
    · exact .inr ⟨h1, (hx.lt b (List.mem_cons_of_mem _ hm)).2⟩
/-- What is made beside them, and written there, is banned by both. -/
theorem TwoAt.beside {w w' : World} {B n : Nat} {x : CoreD} {lv sv : Value} {C m : Nat} {y : CoreD} {mv tv : Value} {G : List Nat} (h : TwoAt w B n x lv sv C m y mv tv) (k : Keeps G w w') (hG : ∀ b ∈ G, x.ban b ∧ y.ban b) :
    TwoAt w' B n (withBan (fun b => x.ban b ∨ (w.heap.size ≤ b ∧ b < w'.heap.size)) x) lv sv C m (withBan (fun b => y.ban b ∨ (w.heap.size ≤ b ∧ b < w'.heap.size)) y) mv tv :=
  ⟨h.cx.banMore k (fun b hb => (hG b hb).1), h.cy.banMore k (fun b hb => (hG b hb).2), fun b hb => .inl (h.bx b hb), fun b hb => .inl (h.by_ b hb)⟩

/-! The logs at the beginning. -/
def logT (ts : List Int) : Nat → Int
  | 0 => 2
  | k + 1 => if placeOf (ts.getD k 0) 2 = 1 then 4 else logT ts k
def logE (ts : List Int) (k : Nat) : Ent := { term := logT ts (k + 1), cmd := true, data := [UInt8.ofNat k] }
def logX (ts : List Int) (k : Nat) : List Ent := (List.range k).map (logE ts)
def logL (ts : List Int) : List Ent := logX ts (min ts.length 12)
def folT (t0 : Int) (bs : List Int) : Nat → Int
  | 0 => t0
  | k + 1 => if placeOf (bs.getD k 0) 2 = 1 then 5 else folT t0 bs k
def folE (t0 : Int) (bs : List Int) (k : Nat) : Ent := { term := folT t0 bs (k + 1), cmd := false, data := [UInt8.ofNat k, 1] }
def folX (m0 : List Ent) (t0 : Int) (bs : List Int) (k : Nat) : List Ent := m0 ++ (List.range k).map (folE t0 bs)
def askE (k : Nat) : Ent := { term := 6, cmd := true, data := [UInt8.ofNat k, 7] }
def noopE : Ent := { term := 5 + 1, cmd := false, data := [] }
def leadL (ts : List Int) (N : Nat) : List Ent := (logL ts ++ [noopE]) ++ (List.range N).map askE

theorem logT_is (ts : List Int) : ∀ k, logT ts k = 2 ∨ logT ts k = 4
  | 0 => .inl rfl
  | k + 1 => by
    unfold logT
    split
    · exact .inr rfl
    · exact logT_is ts k
theorem folT_is {t0 : Int} (h0 : t0 = 3 ∨ t0 = 5) (bs : List Int) : ∀ k, folT t0 bs k = 3 ∨ folT t0 bs k = 5
  | 0 => h0
  | k + 1 => by
    unfold folT
    split
    · exact .inr rfl
    · exact folT_is h0 bs k
theorem logX_len (ts : List Int) (k : Nat) : (logX ts k).length = k := by simp [logX]
theorem logX_succ (ts : List Int) (k : Nat) : logX ts (k + 1) = logX ts k ++ [logE ts k] := by simp [logX, List.range_succ]
theorem logL_len (ts : List Int) : (logL ts).length = min ts.length 12 := logX_len _ _
theorem folX_len (m0 : List Ent) (t0 : Int) (bs : List Int) (k : Nat) : (folX m0 t0 bs k).length = m0.length + k := by simp [folX]
theorem folX_succ (m0 : List Ent) (t0 : Int) (bs : List Int) (k : Nat) : folX m0 t0 bs (k + 1) = folX m0 t0 bs k ++ [folE t0 bs k] := by simp [folX, List.range_succ]
theorem leadL_succ (ts : List Int) (k : Nat) : leadL ts (k + 1) = leadL ts k ++ [askE k] := by simp [leadL, List.range_succ]
theorem leadL_len (ts : List Int) (k : Nat) : (leadL ts k).length = min ts.length 12 + 1 + k := by simp [leadL, logL_len]; omega
theorem logL_mem {ts : List Int} {e : Ent} (h : e ∈ logL ts) : (e.term = 2 ∨ e.term = 4) ∧ e.data.length = 1 := by
  unfold logL logX at h
  obtain ⟨i, _, rfl⟩ := List.mem_map.1 h
  exact ⟨logT_is ts (i + 1), rfl⟩
theorem leadL_mem {ts : List Int} {N : Nat} {e : Ent} (h : e ∈ leadL ts N) : (e.term = 2 ∨ e.term = 4 ∨ e.term = 6) ∧ e.data.length ≤ 2 := by
  unfold leadL at h
  rcases List.mem_append.1 h with h | h
  · rcases List.mem_append.1 h with h | h
    · have := logL_mem h
      omega
    · rw [List.mem_singleton] at h
      subst h
      exact ⟨.inr (.inr rfl), by decide⟩
  · obtain ⟨i, _, rfl⟩ := List.mem_map.1 h
    exact ⟨.inr (.inr rfl), Nat.le_refl _⟩
theorem leadL_mat (ts : List Int) {N : Nat} (hN : N ≤ 11) : MatL (leadL ts N) := by
  refine ⟨by rw [leadL_len]; omega, fun e he => by have := (leadL_mem he).1; omega, fun e he => by have := (leadL_mem he).2; omega, ?_⟩
  cases N with
  | zero => exact ⟨logL ts, noopE, by simp [leadL], rfl⟩
  | succ k => exact ⟨leadL ts k, askE k, leadL_succ ts k, rfl⟩
theorem folX_mem {ts : List Int} {t0 : Int} (h0 : t0 = 3 ∨ t0 = 5) {bs : List Int} {k j : Nat} {e : Ent} (h : e ∈ folX ((logL ts).take k) t0 bs j) : (2 ≤ e.term ∧ e.term ≤ 5) ∧ e.data.length ≤ 2 := by
  unfold folX at h
  rcases List.mem_append.1 h with h | h
  · have := logL_mem (List.mem_of_mem_take h)
    omega
  · obtain ⟨i, _, rfl⟩ := List.mem_map.1 h
    have := folT_is h0 bs (i + 1)
    exact ⟨by show 2 ≤ folT t0 bs (i + 1) ∧ folT t0 bs (i + 1) ≤ 5; omega, Nat.le_refl _⟩
theorem fol_alike (ts : List Int) (N : Nat) {t0 : Int} (h0 : t0 = 3 ∨ t0 = 5) (bs : List Int) {k : Nat} (hk : k ≤ (logL ts).length) (j : Nat) : Alike (leadL ts N) (folX ((logL ts).take k) t0 bs j) := by
  refine .inr ⟨fun e he => by have := (folX_mem h0 he).1; omega, fun i ex ey h1 h2 h3 => ?_⟩
  have hlt : ((logL ts).take k).length = k := by rw [List.length_take]; omega
  by_cases hi : i < k
  · unfold folX leadL
    rw [List.take_append_of_le_length (by omega), List.take_take, show min (i + 1) k = i + 1 by omega, List.append_assoc, List.take_append_of_le_length (by omega)]
  · exfalso
    unfold folX at h2
    rw [List.getElem?_append_right (by omega)] at h2
    have hm := List.mem_of_getElem? h2
    obtain ⟨q, _, rfl⟩ := List.mem_map.1 hm
    have a1 := folT_is h0 bs (q + 1)
    have a2 := (leadL_mem (List.mem_of_getElem? h1)).1
    have a3 : (folE t0 bs q).term = folT t0 bs (q + 1) := rfl
    omega

/-! New entries, as they are built. -/
theorem ent_new (w : World) (e : Ent) {T : Int} {c : Bool} {cs : Array Value} {n : Nat} (hT : e.term = T) (hc : e.cmd = c) (hcs : cs.toList = u8s e.data) (hn : e.data.length = n) (n0 : 0 < n) (n1 : n ≤ 100) :
    entL.at_ ((w.alloc (.cells cs 5)).alloc (.cells #[.int .i64 T, .bool c, .slice (some ⟨w.heap.size, 0, none⟩) n n] 59)) (fun b => b = w.heap.size) [.int .i64 T, .bool c, .slice (some ⟨w.heap.size, 0, none⟩) n n] e ∧
      ((w.alloc (.cells cs 5)).alloc (.cells #[.int .i64 T, .bool c, .slice (some ⟨w.heap.size, 0, none⟩) n n] 59)).heap[w.heap.size + 1]? = some (.cells #[.int .i64 T, .bool c, .slice (some ⟨w.heap.size, 0, none⟩) n n] 59 (0, 0)) := by
  have e1 := heap_alloc_new w (.cells cs 5)
  have k1 : Keeps [] (w.alloc (.cells cs 5)) ((w.alloc (.cells cs 5)).alloc (.cells #[.int .i64 T, .bool c, .slice (some ⟨w.heap.size, 0, none⟩) n n] 59)) := (Keeps.refl _ _).alloc _
  have e2 := (k1.block w.heap.size (by simp) (by simp)).trans e1
  have e3 := heap_alloc_new (w.alloc (.cells cs 5)) (.cells #[.int .i64 T, .bool c, .slice (some ⟨w.heap.size, 0, none⟩) n n] 59)
  rw [show (w.alloc (.cells cs 5)).heap.size = w.heap.size + 1 by simp] at e3
  have hsz : cs.size = n := by rw [← Array.length_toList, hcs, u8s_length, hn]
  refine ⟨⟨.slice (some ⟨w.heap.size, 0, none⟩) n n, ?_, ?_, ?_⟩, e3⟩
  · show _ = [Value.int .i64 e.term, .bool e.cmd, _]
    rw [hT, hc]
  · have h1 := Reads.ofBlock (n := n) (size := 1) e2 (by omega) (by unfold maxLen; omega)
    rw [hcs] at h1
    rw [hn]
    exact h1
  · intro _ b hb
    simpa [mem_ownB, Value.ownBlock, eq_comm] using hb
theorem pair_new (w : World) {cs : Array Value} {bs : List UInt8} {n : Nat} (hcs : cs.toList = u8s bs) (hn : bs.length = n) (n0 : 0 < n) (n1 : n ≤ 100) : BytesAt (w.alloc (.cells cs 5)) (fun b => b = w.heap.size) (.slice (some ⟨w.heap.size, 0, none⟩) n n) bs := by
  have e1 := heap_alloc_new w (.cells cs 5)
  have hsz : cs.size = n := by rw [← Array.length_toList, hcs, u8s_length, hn]
  refine ⟨?_, ?_⟩
  · have h1 := Reads.ofBlock (n := n) (size := 1) e1 (by omega) (by unfold maxLen; omega)
    rw [hcs] at h1
    rw [hn]
    exact h1
  · intro _ b hb
    simpa [mem_ownB, Value.ownBlock, eq_comm] using hb
theorem u8_small {k : Nat} (h : k < 256) : Value.int .u8 ((UInt8.ofNat k).toNat : Int) = .int .u8 (k : Int) := by
  rw [show (UInt8.ofNat k).toNat = k by simp [UInt8.toNat_ofNat']; omega]

end Go.Proofs.Ytpppoajnbhipeaa

/- CoreMatches: both cores in memory, call by call. -/
namespace Go.Proofs.Ytpppoajnbhipeaa
open Go Go.RowKit

/-- The ten cells of a message. -/
def MsgCells (w : World) (g o : Nat) (m : MsgD) (ev dv : Value) : Prop :=
  w.cell? ⟨g, o, none⟩ = some (.int .i64 m.kind) ∧ w.cell? ⟨g, o + 1, none⟩ = some (.int .i64 m.frm) ∧ w.cell? ⟨g, o + 2, none⟩ = some (.int .i64 m.to) ∧ w.cell? ⟨g, o + 3, none⟩ = some (.int .i64 m.term) ∧ w.cell? ⟨g, o + 4, none⟩ = some (.int .i64 m.a) ∧
  w.cell? ⟨g, o + 5, none⟩ = some (.int .i64 m.b) ∧ w.cell? ⟨g, o + 6, none⟩ = some (.int .i64 m.c) ∧ w.cell? ⟨g, o + 7, none⟩ = some (.bool m.ok) ∧ w.cell? ⟨g, o + 8, none⟩ = some ev ∧ w.cell? ⟨g, o + 9, none⟩ = some dv

theorem own_msgs {w : World} {B : Nat} {P : Nat → Prop} {a : Option Addr} {n q : Nat} {l : List MsgD} (h : OwnAt msgL 40 w B P (.slice a n q) l) (hn : l ≠ []) :
    ∃ g, a = some ⟨g, 0, none⟩ ∧ B ≤ g ∧ g < w.heap.size ∧ n ≤ q ∧ q ≤ maxLen ∧ (∀ i, w.frozen? ⟨g, i, none⟩ = false) ∧
      ∀ (i : Nat) (m : MsgD), l[i]? = some m → ∃ ea ec da dc, MsgCells w g (i * 10) m (.slice ea m.entries.length ec) (.slice da m.data.length dc) ∧ ListAt entL w (fun b => P b ∧ b < w.heap.size) (.slice ea m.entries.length ec) m.entries ∧ BytesAt w (fun b => P b ∧ b < w.heap.size) (.slice da m.data.length dc) m.data := by
  have hf : ∃ g, a = some ⟨g, 0, none⟩ ∧ B ≤ g ∧ n ≤ q ∧ q ≤ maxLen ∧ ∃ cur, w.heap[g]? = some (.cells cur 40 (0, 0)) := by
    obtain ⟨css, he, ho⟩ := h
    obtain ⟨h1, h2 | ⟨g, cap, cur, hv, hb, hbl, h5, h6, _, _⟩⟩ := ho
    · exfalso
      have := flatten_length he.lens
      rw [h1, h2.2] at this
      have h3 := he.1
      have h4 : msgL.size = 10 := rfl
      rw [h4] at this
      have : css.length = 0 := by omega
      rw [this] at h3
      exact hn (List.length_eq_zero_iff.1 h3.symm)
    · simp at hv
      obtain ⟨rfl, rfl, rfl⟩ := hv
      exact ⟨g, rfl, hb, h5, h6, cur, hbl⟩
  obtain ⟨g, rfl, hb, h5, h6, cur, hbl⟩ := hf
  have hlt := (Array.getElem?_eq_some_iff.1 hbl).1
  have hl := OwnAt.list (P' := fun b => P b ∨ b = g) h (fun _ _ h => .inl h) (fun b hb => .inr (by simpa [mem_ownB, Value.ownBlock, eq_comm] using hb))
  refine ⟨g, rfl, hb, hlt, h5, h6, fun i => frozen_of_row w g i _ _ hbl, fun i m hm => ?_⟩
  obtain ⟨css, he, ho⟩ := h
  obtain ⟨cs0, hcs, hcc⟩ := hl.get hm
  have hcs2 : ∃ cs, msgL.at_ w P cs m ∧ ∀ (j : Nat) (v : Value), cs[j]? = some v → w.cell? ⟨g, i * 10 + j, none⟩ = some v := by
    have hi := (List.getElem?_eq_some_iff.1 hm).1
    obtain ⟨cs, hc⟩ : ∃ cs, css[i]? = some cs := ⟨css[i]'(by rw [he.1]; exact hi), List.getElem?_eq_getElem _⟩
    refine ⟨cs, he.2 i cs m hc hm, fun j v hj => ?_⟩
    have hj10 : j < 10 := by
      have h1 := he.lens cs (List.mem_of_getElem? hc)
      have h2 := (List.getElem?_eq_some_iff.1 hj).1
      rw [h1] at h2
      exact h2
    obtain ⟨h1, h2 | ⟨g2, cap, cur2, hv, _, hbl2, h7, _, _, h8⟩⟩ := ho
    · simp at h2
    · simp at hv
      obtain ⟨rfl, rfl, rfl⟩ := hv
      rw [hbl] at hbl2
      simp at hbl2
      subst hbl2
      rw [cell_of_block hbl]
      have h9 := flatten_get he.lens (i := i) (j := j) hc hj10
      rw [hj, ← h8] at h9
      have h10 : msgL.size = 10 := rfl
      rw [h10] at h9
      rw [List.getElem?_take] at h9
      split at h9
      · simpa using h9
      · cases h9
  obtain ⟨cs, ⟨ev, dv, rfl, hev, hdv⟩, hcell⟩ := hcs2
  obtain ⟨ea, ec, rfl⟩ := hev.form
  obtain ⟨da, dc, rfl⟩ := hdv.form
  exact ⟨ea, ec, da, dc, ⟨hcell 0 _ rfl, hcell 1 _ rfl, hcell 2 _ rfl, hcell 3 _ rfl, hcell 4 _ rfl, hcell 5 _ rfl, hcell 6 _ rfl, hcell 7 _ rfl, hcell 8 _ rfl, hcell 9 _ rfl⟩, hev.mono (fun b h1 h2 => ⟨h2, h1⟩), hdv.mono (fun b h1 h2 => ⟨h2, h1⟩)⟩

/-- Other patience, another ban: all the same. -/
theorem MatX.like {L : List Ent} {x : CoreD} (h : MatX L x) (p : Int) (f : Nat → Prop) : MatX L { x with patience := p, ban := f } := ⟨h.conf, h.id, h.term, h.role, h.base, h.baseTerm, h.log, h.nlen, h.mlen, h.m3, h.com, h.mu, h.full⟩
theorem MatY.like {L : List Ent} {x y : CoreD} (h : MatY L x y) (p : Int) (f g : Nat → Prop) : MatY L { x with patience := p, ban := f } { y with ban := g } := ⟨h.conf, h.id, h.role, h.base, h.baseTerm, h.term, h.com, h.mu, h.same, h.alike⟩
theorem MatH.like {L : List Ent} {h : Nat} {x y : CoreD} (H : MatH L h x y) (p : Int) (f g : Nat → Prop) : MatH L h { x with patience := p, ban := f } { y with ban := g } := ⟨H.mx.like p f, H.my.like p f g, H.prog, H.last, H.told⟩
theorem HearsY.like {L : List Ent} {x y y' : CoreD} {a : Nat} {o : Bool} {A : Int} (h : HearsY L x y y' a o A) (f : Nat → Prop) : HearsY L (withBan f x) y y' a o A := ⟨h.conf, h.id, h.role, h.base, h.baseTerm, h.term, h.leader, h.alike, h.yes, h.no, h.ban⟩

/-- Both in memory, behind h rounds. -/
structure MatAt (w0 w : World) (L : List Ent) (h n m : Nat) (x y : CoreD) (lv sv mv tv : Value) : Prop where
  two : TwoAt w w0.heap.size n x lv sv w0.heap.size m y mv tv
  mat : MatH L h x y
  keeps : Keeps [] w0 w

theorem MatAt.loX {w0 w : World} {L : List Ent} {h n m : Nat} {x y : CoreD} {lv sv mv tv : Value} (H : MatAt w0 w L h n m x y lv sv mv tv) : ∀ b ∈ n :: ownB lv, w0.heap.size ≤ b := fun b hb => (H.two.cx.lt b hb).1
theorem MatAt.loY {w0 w : World} {L : List Ent} {h n m : Nat} {x y : CoreD} {lv sv mv tv : Value} (H : MatAt w0 w L h n m x y lv sv mv tv) : ∀ b ∈ m :: ownB mv, w0.heap.size ≤ b := fun b hb => (H.two.cy.lt b hb).1

/-- Beside them. -/
theorem MatAt.beside {w0 w w' : World} {L : List Ent} {h n m : Nat} {x y : CoreD} {lv sv mv tv : Value} {G : List Nat} (H : MatAt w0 w L h n m x y lv sv mv tv) (k : Keeps G w w') (hG : ∀ b ∈ G, (x.ban b ∧ y.ban b) ∧ w0.heap.size ≤ b) :
    MatAt w0 w' L h n m (withBan (fun b => x.ban b ∨ (w.heap.size ≤ b ∧ b < w'.heap.size)) x) (withBan (fun b => y.ban b ∨ (w.heap.size ≤ b ∧ b < w'.heap.size)) y) lv sv mv tv :=
  ⟨H.two.beside k (fun b hb => (hG b hb).1), H.mat.like x.patience _ _, H.keeps.trans k (fun b hb hb' => by have := (hG b hb').2; omega)⟩

/-- A row of two messages that both leave alone: the second goes to node 3. -/
structure RowG (w0 w : World) (g : Nat) (x y : CoreD) : Prop where
  lo : w0.heap.size ≤ g
  lt : g < w.heap.size
  bx : x.ban g
  by_ : y.ban g
  free : ∀ i, w.frozen? ⟨g, i, none⟩ = false
  to3 : w.cell? ⟨g, 12, none⟩ = some (.int .i64 3)
theorem RowG.keep {w0 w w' : World} {g : Nat} {x y x' y' : CoreD} {F : List Nat} (h : RowG w0 w g x y) (k : Keeps F w w') (hg : g ∉ F) (hx : x.ban g → x'.ban g) (hy : y.ban g → y'.ban g) : RowG w0 w' g x' y' :=
  ⟨h.lo, Nat.lt_of_lt_of_le h.lt k.size, hx h.bx, hy h.by_, fun i => (k.frozen (a := ⟨g, i, none⟩) h.lt hg).trans (h.free i), k.cellSome h.to3 hg⟩

theorem matc_still {x : CoreD} (h : x.conf = cfL 3) (hp : x.patience = 0) : x.patience + 1 < x.conf.heart := by
  rw [h, hp]
  decide
theorem matc_sends {x : CoreD} (h : x.conf = cfL 3) (hp : x.patience = 1) : ¬ x.patience + 1 < x.conf.heart := by
  rw [h, hp]
  decide

theorem mat_still {w0 w : World} {L : List Ent} {h n m : Nat} {x y : CoreD} {lv sv mv tv : Value} (H : MatAt w0 w L h n m x y lv sv mv tv) (hp : x.patience = 0) :
    Calls Try.prog 38 #[.pointer (some ⟨n, 0, none⟩)] w fun e w' => ∃ a q, e = .returned (.slice a 0 q) ∧ ∃ x' y', x'.patience = 1 ∧ MatAt w0 w' L h n m x' y' lv sv mv tv := by
  have hs := matc_still H.mat.mx.conf hp
  refine (tick_any w w0.heap.size n x lv sv H.two.cx (by omega)).mono ?_
  rintro e w' ⟨a, q, he, hc, hl, hk⟩
  rw [tickD_still H.mat.mx.role hs] at he hc hl
  have ht := H.two.call hc rfl (hk.mono (G := n :: ownB lv) (fun b _ hb => by simp at hb; simp [hb])) (fun b hb => .inl hb)
  exact ⟨a, q, he, tick1 x, _, by show x.patience + 1 = 1; omega, ht, H.mat.like (x.patience + 1) x.ban _, H.keeps.trans hk (fun b hb hb' => by have := H.loX n (by simp); simp at hb'; omega)⟩

theorem send_to (c : CoreD) (t : Int) : (sendD c t).to = t := by
  unfold sendD
  dsimp only
  split <;> rfl
theorem others_two {c : CoreD} (hc : c.conf = cfL 3) (hi : c.id = 1) (f : Int → MsgD) : othersD c f = [f 2, f 3] := by
  unfold othersD
  rw [hc, hi]
  rfl

theorem mat_sends {w0 w : World} {L : List Ent} {h n m : Nat} {x y : CoreD} {lv sv mv tv : Value} (H : MatAt w0 w L h n m x y lv sv mv tv) (hp : x.patience = 1) :
    Calls Try.prog 38 #[.pointer (some ⟨n, 0, none⟩)] w fun e w' => ∃ (g q : Nat) (x' y' : CoreD) (a : Nat) (ea : Option Addr) (ec : Nat) (da : Option Addr) (dc : Nat), e = .returned (.slice (some ⟨g, 0, none⟩) 2 q) ∧ 2 ≤ q ∧ q ≤ maxLen ∧ x'.patience = 0 ∧ MatAt w0 w' L h n m x' y' lv sv mv tv ∧ RowG w0 w' g x' y' ∧
      x'.next.getD 2 0 = (a : Int) + 1 ∧ MsgCells w' g 0 (appX x' L a) (.slice ea (appX x' L a).entries.length ec) (.slice da 0 dc) ∧ ListAt entL w' (fun b => y'.ban b ∧ b ≠ g) (.slice ea (appX x' L a).entries.length ec) (appX x' L a).entries := by
  have hs := matc_sends H.mat.mx.conf hp
  refine (tick_sends w w0.heap.size n x lv sv H.two.cx H.mat.mx.role (by omega) hs).mono ?_
  rintro e w' ⟨w1, hc, hk, hm⟩
  have ht := H.two.call hc rfl (hk.mono (G := n :: ownB lv) (fun b _ hb => by simp at hb; simp [hb])) (fun b hb => .inl hb)
  have H1 : MatAt w0 w1 L h n m (tick0 x) _ lv sv mv tv := ⟨ht, H.mat.like 0 x.ban _, H.keeps.trans hk (fun b hb hb' => by have := H.loX n (by simp); simp at hb'; omega)⟩
  obtain ⟨a, ha⟩ : ∃ a : Nat, (tick0 x).next.getD 2 0 = (a : Int) + 1 := ⟨((tick0 x).next.getD 2 0 - 1).toNat, by have := H1.mat.mx.mu; have := H1.mat.mx.com; omega⟩
  rw [others_two H1.mat.mx.conf H1.mat.mx.id, send_appX H1.mat.mx ha] at hm
  obtain ⟨ga, q, he, hf, hk2⟩ := hm
  obtain ⟨g, rfl, hg, hgl, hq, hqm, hfr, hms⟩ := own_msgs hf (by simp)
  obtain ⟨ea, ec, da, dc, h0, hl, _⟩ := hms 0 _ rfl
  obtain ⟨_, _, _, _, h1, _, _⟩ := hms 1 _ rfl
  have H2 := H1.beside hk2 (fun b hb => by cases hb)
  refine ⟨g, q, _, _, a, ea, ec, da, dc, he, hq, hqm, rfl, H2, ⟨Nat.le_trans H1.keeps.size hg, hgl, .inr ⟨hg, hgl⟩, .inr ⟨hg, hgl⟩, hfr, ?_⟩, ha, h0, hl.mono (fun b _ hb => ⟨.inr ⟨hb.1.1, hb.2⟩, fun h => hb.1.2 (by rw [h]; simp [mem_ownB, Value.ownBlock])⟩)⟩
  have := h1.2.2.1
  rw [send_to] at this
  exact this

/-- Between the follower's answer and the leader's hearing it. -/
structure MatMid (w0 w : World) (L : List Ent) (h n m : Nat) (x y y' : CoreD) (lv sv mv tv : Value) (a : Nat) (o : Bool) (A : Int) : Prop where
  two : TwoAt w w0.heap.size n x lv sv w0.heap.size m y' mv tv
  mat : MatH L h x y
  heard : HearsY L x y y' a o A
  nxt : x.next.getD 2 0 = (a : Int) + 1
  keeps : Keeps [] w0 w

theorem mat_hear_y {w0 w : World} {L : List Ent} (hL : MatL L) {h n m : Nat} {x y : CoreD} {lv sv mv tv : Value} {g : Nat} (H : MatAt w0 w L h n m x y lv sv mv tv) (HG : RowG w0 w g x y) {a : Nat} (ha : x.next.getD 2 0 = (a : Int) + 1) {ea da : Option Addr} {ec dc : Nat}
    (hl : ListAt entL w (fun b => y.ban b ∧ b ≠ g) (.slice ea (appX x L a).entries.length ec) (appX x L a).entries) :
    Calls Try.prog 22 #[.pointer (some ⟨m, 0, none⟩), msgV (appX x L a) (.slice ea (appX x L a).entries.length ec) (.slice da 0 dc)] w fun e w' => ∃ (r q : Nat) (x' y' : CoreD) (o : Bool) (A : Int) (mv' tv' : Value) (ea' : Option Addr) (ec' : Nat) (da' : Option Addr) (dc' : Nat), e = .returned (.slice (some ⟨r, 0, none⟩) 1 q) ∧ 1 ≤ q ∧ q ≤ maxLen ∧ MatMid w0 w' L h n m x' y y' lv sv mv' tv' a o A ∧ x'.patience = x.patience ∧
      RowG w0 w' g x' y' ∧ MsgCells w' r 0 (ansY o A) (.slice ea' 0 ec') (.slice da' 0 dc') ∧ (∀ i v, w.cell? ⟨g, i, none⟩ = some v → w'.cell? ⟨g, i, none⟩ = some v) := by
  have hfree := H.two.cy.free
  have hy5 := H.two.cy.ok.len
  have off : ∀ b, y.ban b → Off m mv b := fun b hb => ⟨fun h => hfree.1 (h ▸ hb), fun h => hfree.2 b h hb⟩
  obtain ⟨y', o, A, he, hh⟩ := hears_y hL H.mat.mx H.mat.my ha
  have hlen := hL.len
  have := hear_any w w0.heap.size m y mv tv (appX x L a) ea da ec dc H.two.cy (hl.mono (fun b _ hb => off b hb.1)) (BytesAt.nil _ _ _ _) (by show (0 : Nat) ≤ _; omega) (fun e he => hL.datas e (List.mem_of_mem_drop (List.mem_of_mem_take he))) (by unfold lastD; rw [H.mat.my.base]; omega)
  refine this.mono ?_
  rw [he]
  rintro e w' ⟨ra, q, mv', tv', he2, hc, hm, hk, hv⟩
  obtain ⟨r, rfl, hr, hrl, hq, hqm, _, hms⟩ := own_msgs hm.1 (by simp)
  obtain ⟨ea', ec', da', dc', h0, _, _⟩ := hms 0 _ rfl
  have hgm : g ∉ m :: ownB mv := fun hg => by
    rcases List.mem_cons.1 hg with h | h
    · exact hfree.1 (h ▸ HG.by_)
    · exact hfree.2 g h HG.by_
  have ht := (H.two.symm.call hc hh.ban hk hv).symm
  refine ⟨r, q, _, y', o, A, mv', tv', ea', ec', da', dc', he2, hq, hqm, ⟨ht, H.mat.like x.patience _ y.ban, hh.like _, ha, H.keeps.trans hk (fun b hb hb' => by have := H.loY b hb'; omega)⟩, rfl, HG.keep hk hgm .inl (fun hb => by rw [hh.ban]; exact hb), h0, fun i v hv => hk.cellSome hv hgm⟩

/-- It took them: another round is done. -/
theorem mat_hear_yes {w0 w : World} {L : List Ent} (hL : MatL L) {h n m : Nat} {x y y' : CoreD} {lv sv mv tv : Value} {a : Nat} {A : Int} {g : Nat} (H : MatMid w0 w L h n m x y y' lv sv mv tv a true A) (HG : RowG w0 w g x y') {ea da : Option Addr} {ec dc : Nat} :
    Calls Try.prog 22 #[.pointer (some ⟨n, 0, none⟩), msgV (ansY true A) (.slice ea 0 ec) (.slice da 0 dc)] w fun e w' => ∃ qa q x' y2 lv' sv', e = .returned (.slice qa 0 q) ∧ MatAt w0 w' L (h + 1) n m x' y2 lv' sv' mv tv ∧ x'.patience = x.patience ∧ RowG w0 w' g x' y2 := by
  have hfree := H.two.cx.free
  obtain ⟨x', he, hM, hp, hb⟩ := x_yes hL H.mat H.nxt H.heard
  have hlen := hL.len
  have := hear_any w w0.heap.size n x lv sv (ansY true A) ea da ec dc H.two.cx (ListAt.nil _ _ _ _) (BytesAt.nil _ _ _ _) (by show (0 : Nat) ≤ _; omega) (fun e he => by cases he) (by unfold lastD; rw [H.mat.mx.base, H.mat.mx.log]; omega)
  refine this.mono ?_
  rw [he]
  rintro e w' ⟨qa, q, lv', sv', he2, hc, hm, hk, hv⟩
  have hgm : g ∉ n :: ownB lv := fun hg => by
    rcases List.mem_cons.1 hg with h | h
    · exact hfree.1 (h ▸ HG.bx)
    · exact hfree.2 g h HG.bx
  have ht := H.two.call hc hb hk hv
  exact ⟨qa, q, x', _, lv', sv', he2, ⟨ht, hM.like x'.patience x'.ban _, H.keeps.trans hk (fun b hb hb' => by have := (H.two.cx.lt b hb').1; omega)⟩, hp, HG.keep hk hgm (fun h => by rw [hb]; exact h) .inl⟩

/-- It did not: the leader has another message for it. -/
theorem mat_hear_no {w0 w : World} {L : List Ent} (hL : MatL L) {h n m : Nat} {x y y' : CoreD} {lv sv mv tv : Value} {a : Nat} {A : Int} {g : Nat} (H : MatMid w0 w L h n m x y y' lv sv mv tv a false A) (HG : RowG w0 w g x y') {ea da : Option Addr} {ec dc : Nat} :
    Calls Try.prog 22 #[.pointer (some ⟨n, 0, none⟩), msgV (ansY false A) (.slice ea 0 ec) (.slice da 0 dc)] w fun e w' => ∃ (r q : Nat) (x' y2 : CoreD) (lv' sv' : Value) (a' : Nat) (ea' : Option Addr) (ec' : Nat) (da' : Option Addr) (dc' : Nat), e = .returned (.slice (some ⟨r, 0, none⟩) 1 q) ∧ 1 ≤ q ∧ q ≤ maxLen ∧ MatAt w0 w' L h n m x' y2 lv' sv' mv tv ∧ x'.patience = x.patience ∧ RowG w0 w' g x' y2 ∧ (g ≠ r) ∧ a' < a ∧
      x'.next.getD 2 0 = (a' : Int) + 1 ∧ MsgCells w' r 0 (appX x' L a') (.slice ea' (appX x' L a').entries.length ec') (.slice da' 0 dc') ∧ ListAt entL w' (fun b => y2.ban b ∧ b ≠ g) (.slice ea' (appX x' L a').entries.length ec') (appX x' L a').entries ∧ (∀ i v, w.cell? ⟨g, i, none⟩ = some v → w'.cell? ⟨g, i, none⟩ = some v) := by
  have hfree := H.two.cx.free
  obtain ⟨x', he, hM, hn, hp, hb⟩ := x_no H.mat H.nxt H.heard
  have hlen := hL.len
  have := hear_any w w0.heap.size n x lv sv (ansY false A) ea da ec dc H.two.cx (ListAt.nil _ _ _ _) (BytesAt.nil _ _ _ _) (by show (0 : Nat) ≤ _; omega) (fun e he => by cases he) (by unfold lastD; rw [H.mat.mx.base, H.mat.mx.log]; omega)
  refine this.mono ?_
  obtain ⟨a', ha'⟩ : ∃ a' : Nat, x'.next.getD 2 0 = (a' : Int) + 1 := ⟨(x'.next.getD 2 0 - 1).toNat, by have := hM.mx.mu; have := hM.mx.com; omega⟩
  have haa : a' < a := by have := H.nxt; omega
  rw [he, send_appX hM.mx ha']
  rintro e w' ⟨qa, q, lv', sv', he2, hc, hm, hk, hv⟩
  obtain ⟨r, rfl, hr, hrl, hq, hqm, _, hms⟩ := own_msgs hm.1 (by simp)
  obtain ⟨ea', ec', da', dc', h0, hl, _⟩ := hms 0 _ rfl
  have hgm : g ∉ n :: ownB lv := fun hg => by
    rcases List.mem_cons.1 hg with h | h
    · exact hfree.1 (h ▸ HG.bx)
    · exact hfree.2 g h HG.bx
  have ht := H.two.call hc hb hk hv
  refine ⟨r, q, x', _, lv', sv', a', ea', ec', da', dc', he2, hq, hqm, ⟨ht, hM.like x'.patience x'.ban _, H.keeps.trans hk (fun b hb hb' => by have := (H.two.cx.lt b hb').1; omega)⟩, hp, HG.keep hk hgm (fun h => by rw [hb]; exact h) .inl, by have := HG.lt; omega, haa, ha', h0, ?_, fun i v hv => hk.cellSome hv hgm⟩
  exact hl.mono (fun b _ hb => ⟨.inr ⟨hb.1.1.1, hb.2⟩, fun h => by have := HG.lt; have := hb.1.1.1; omega⟩)

end Go.Proofs.Ytpppoajnbhipeaa

/- CoreMatches: how both begin. -/
namespace Go.Proofs.Ytpppoajnbhipeaa
open Go Go.RowKit

/-- A round's state: the leader's message for the follower lies in the first place of the row at g. -/
def MsgSt (w0 w : World) (L : List Ent) (h n m g c : Nat) : Prop :=
  ∃ (x y : CoreD) (lv sv mv tv : Value) (a : Nat) (ea : Option Addr) (ec : Nat) (da : Option Addr) (dc : Nat), MatAt w0 w L h n m x y lv sv mv tv ∧ x.patience = 0 ∧ RowG w0 w g x y ∧ x.next.getD 2 0 = (a : Int) + 1 ∧ c + a ≤ 25 ∧
    MsgCells w g 0 (appX x L a) (.slice ea (appX x L a).entries.length ec) (.slice da 0 dc) ∧ ListAt entL w (fun b => y.ban b ∧ b ≠ g) (.slice ea (appX x L a).entries.length ec) (appX x L a).entries
/-- .. and when it has been heard. -/
def MsgDone (w0 w : World) (L : List Ent) (h n m g : Nat) : Prop :=
  ∃ (x y : CoreD) (lv sv mv tv : Value), MatAt w0 w L h n m x y lv sv mv tv ∧ x.patience = 0 ∧ RowG w0 w g x y
theorem next_bd {L : List Ent} (hL : MatL L) {x : CoreD} (h : MatX L x) {a : Nat} (ha : x.next.getD 2 0 = (a : Int) + 1) : a ≤ 25 := by
  have := h.mu
  have := hL.len
  omega

theorem mat_store {w0 w w' : World} {L : List Ent} {h n m g c a : Nat} {x y : CoreD} {lv sv mv tv : Value} {ea da : Option Addr} {ec dc : Nat} (H : MatAt w0 w L h n m x y lv sv mv tv) (HG : RowG w0 w g x y) (hp : x.patience = 0) (hn : x.next.getD 2 0 = (a : Int) + 1) (hc : c + a ≤ 25)
    (hel : ListAt entL w (fun b => y.ban b ∧ b ≠ g) (.slice ea (appX x L a).entries.length ec) (appX x L a).entries) (k : Keeps [g] w w') (hf : ∀ i, w'.frozen? ⟨g, i, none⟩ = false) (h12 : w'.cell? ⟨g, 12, none⟩ = w.cell? ⟨g, 12, none⟩)
    (hmc : MsgCells w' g 0 (appX x L a) (.slice ea (appX x L a).entries.length ec) (.slice da 0 dc)) : MsgSt w0 w' L h n m g c := by
  have H2 := H.beside k (fun b hb => by
    rw [List.mem_singleton] at hb
    subst hb
    exact ⟨⟨HG.bx, HG.by_⟩, HG.lo⟩)
  refine ⟨_, _, lv, sv, mv, tv, a, ea, ec, da, dc, H2, hp, ⟨HG.lo, Nat.lt_of_lt_of_le HG.lt k.size, .inl HG.bx, .inl HG.by_, hf, h12.trans HG.to3⟩, hn, hc, hmc, ?_⟩
  exact (hel.keep k (fun b hb hb' => by rw [List.mem_singleton] at hb'; exact hb.2 hb')).mono (fun b _ hb => ⟨.inl hb.1, hb.2⟩)

/-- The leader behind k calls of Ask. -/
structure AskI (ts : List Int) (k : Nat) (x : CoreD) : Prop where
  conf : x.conf = cfL 3
  id : x.id = 1
  term : x.term = 6
  role : x.role = 2
  base : x.base = 0
  baseTerm : x.baseTerm = 0
  log : x.l = leadL ts k
  next : x.next = List.replicate 8 (((logL ts).length : Int) + 1)
  matc : x.matc = List.replicate 8 0
  commit : x.commit = 0
  pat : x.patience = 0

theorem AskI.first {ts : List Int} {x : CoreD} (h : Led 3 5 (logL ts) x) (f : Nat → Prop) : AskI ts 0 (withBan f x) :=
  ⟨h.conf, h.id, h.term, h.role, h.base, h.baseTerm, by show x.l = _; rw [h.log]; simp [leadL, noopE], h.next, h.matc, h.commit, h.patience⟩
theorem AskI.ask {ts : List Int} {k : Nat} {x : CoreD} (h : AskI ts k x) (hk : k < 12) : askD x [UInt8.ofNat k, 7] = (askC x [UInt8.ofNat k, 7], lastD (askC x [UInt8.ofNat k, 7]), othersD (askC x [UInt8.ofNat k, 7]) (sendD (askC x [UInt8.ofNat k, 7])), 0) ∧ AskI ts (k + 1) (askC x [UInt8.ofNat k, 7]) := by
  constructor
  · exact askD_yes h.role (by rw [h.log, leadL_len]; omega)
  · refine ⟨h.conf, h.id, h.term, h.role, h.base, h.baseTerm, ?_, h.next, h.matc, h.commit, h.pat⟩
    show x.l ++ [{ term := x.term, cmd := true, data := [UInt8.ofNat k, 7] }] = _
    rw [h.log, h.term, leadL_succ]
    rfl
theorem AskI.mat {ts : List Int} {N : Nat} {x : CoreD} (h : AskI ts N x) : MatX (leadL ts N) x := by
  have hl := leadL_len ts N
  have hg := logL_len ts
  refine ⟨h.conf, h.id, h.term, h.role, h.base, h.baseTerm, h.log, by rw [h.next]; rfl, by rw [h.matc]; rfl, by rw [h.matc]; rfl, ?_, ?_, ?_⟩
  · rw [h.commit, h.matc]
    decide
  · rw [h.next, h.matc]
    show (0 : Int) + 1 ≤ ((logL ts).length : Int) + 1 ∧ ((logL ts).length : Int) + 1 ≤ _
    omega
  · rw [h.matc]
    show (0 : Int) = _ → _
    omega

/-- Both, behind k calls of Ask. -/
structure AskAt (w0 w : World) (ts bs : List Int) (kk : Nat) (t0 : Int) (k n m : Nat) (x y : CoreD) (lv sv mv tv : Value) : Prop where
  two : TwoAt w w0.heap.size n x lv sv w0.heap.size m y mv tv
  ask : AskI ts k x
  fol : ∃ f, y = withBan f (newD (cfL 3) 2 5 0 0 0 (folX ((logL ts).take kk) t0 bs (min bs.length 12)))
  keeps : Keeps [] w0 w

theorem ask_first {w0 w1 w2 w3 : World} {ts bs : List Int} {kk : Nat} {t0 : Int} {n m : Nat} {x : CoreD} {lv sv mv tv : Value} (h1 : w0.heap.size ≤ w1.heap.size) (hx : CoreAt w2 w1.heap.size n x lv sv) (hl : Led 3 5 (logL ts) x) (k2 : Keeps [] w0 w2) (k3 : Keeps [] w2 w3)
    (hy : CoreAt w3 w2.heap.size m (banB w2.heap.size (newD (cfL 3) 2 5 0 0 0 (folX ((logL ts).take kk) t0 bs (min bs.length 12)))) mv tv) :
    ∃ x' y', AskAt w0 w3 ts bs kk t0 0 n m x' y' lv sv mv tv := by
  have hb := (hx.lower h1).banMore k3 (fun b hb => by cases hb)
  refine ⟨_, _, ⟨⟨hb, hy.lower (by exact k2.size), fun b hb => ?_, fun b hb => ?_⟩, AskI.first hl _, ⟨_, rfl⟩, k2.trans k3 (fun _ _ h => h)⟩⟩
  · exact .inr ⟨(hy.lt b hb).1, (hy.lt b hb).2⟩
  · exact (hx.lt b hb).2

theorem ask_step {w0 w : World} {ts bs : List Int} {kk : Nat} {t0 : Int} {k n m : Nat} {x y : CoreD} {lv sv mv tv : Value} (H : AskAt w0 w ts bs kk t0 k n m x y lv sv mv tv) (hk : k < 12) :
    Calls Try.prog 39 #[.pointer (some ⟨n, 0, none⟩), .slice (some ⟨w.heap.size, 0, none⟩) 2 2] (w.alloc (.cells #[.int .u8 (k : Int), .int .u8 7] 5)) fun e w' => ∃ i a l q, e = .returned (.tuple #[i, .slice a l q, .int .i64 0]) ∧ ∃ x' y' lv' sv', AskAt w0 w' ts bs kk t0 (k + 1) n m x' y' lv' sv' mv tv := by
  have ka : Keeps [] w (w.alloc (.cells #[.int .u8 (k : Int), .int .u8 7] 5)) := (Keeps.refl [] w).alloc _
  have hp := pair_new w (cs := #[.int .u8 (k : Int), .int .u8 7]) (bs := [UInt8.ofNat k, 7]) (n := 2) (by show [Value.int .u8 (k : Int), .int .u8 7] = [.int .u8 ((UInt8.ofNat k).toNat : Int), .int .u8 ((7 : UInt8).toNat : Int)]; rw [u8_small (by omega)]; rfl) rfl (by decide) (by decide)
  have hl := leadL_len ts k
  refine (ask_any _ w0.heap.size n x lv sv [UInt8.ofNat k, 7] (some ⟨w.heap.size, 0, none⟩) 2 _ (H.two.cx.k ka) hp (by show (2 : Nat) ≤ _; omega) (by unfold lastD; rw [H.ask.base, H.ask.log]; omega)).mono ?_
  obtain ⟨he, hI⟩ := H.ask.ask hk
  rw [he]
  rintro e w' ⟨a, q, lv', sv', he2, hc, hm, hk2, hv⟩
  have ht := TwoAt.call (⟨H.two.cx.k ka, H.two.cy.k ka, H.two.bx, H.two.by_⟩ : TwoAt _ _ n x lv sv _ m y mv tv) hc rfl hk2 hv
  obtain ⟨f, hf⟩ := H.fol
  refine ⟨_, a, _, q, he2, _, _, lv', sv', ht, hI, ⟨_, by rw [hf]; rfl⟩, (H.keeps.trans ka (fun _ _ h => h)).trans hk2 (fun b hb hb' => ?_)⟩
  have h1 := (H.two.cx.lt b hb').1
  omega

theorem ask_last {w0 w : World} {ts bs : List Int} {kk : Nat} {t0 : Int} {N n m : Nat} {x y : CoreD} {lv sv mv tv : Value} (H : AskAt w0 w ts bs kk t0 N n m x y lv sv mv tv) (ht : t0 = 3 ∨ t0 = 5) (hk : kk ≤ min ts.length 12) : MatAt w0 w (leadL ts N) 0 n m x y lv sv mv tv ∧ x.patience = 0 := by
  obtain ⟨f, rfl⟩ := H.fol
  refine ⟨⟨H.two, ⟨H.ask.mat, ⟨rfl, rfl, rfl, rfl, rfl, by show (5 : Int) ≤ 6; decide, ?_, ?_, ?_, ?_⟩, ?_, fun h => by omega, fun h => by omega⟩, H.keeps⟩, H.ask.pat⟩
  · rw [H.ask.matc]
    show (0 : Int) ≤ 0 ∧ (0 : Int) ≤ _
    decide
  · rw [H.ask.matc]
    exact Int.natCast_nonneg _
  · rw [H.ask.matc]
    rfl
  · exact fol_alike ts N ht bs (by rw [logL_len]; exact hk) _
  · left
    rw [H.ask.matc]
    decide

theorem folX_is {ts bs : List Int} {kk : Nat} (hk : kk ≤ min ts.length 12) (t0 : Int) (k : Nat) : (folX ((logL ts).take kk) t0 bs k).length = kk + k := by
  rw [folX_len, List.length_take, logL_len]
  omega
theorem mat_may (id : Int) (hi : id = 1 ∨ id = 2) (l : List Ent) (hl : l.length ≤ 100) (ht : ∀ e ∈ l, 1 ≤ e.term ∧ e.term ≤ 6) : mayNewD (cfL 3) id 5 0 0 0 l = true := by
  have h1 : (l.all fun e => inD e.term 1 1099511627776) = true := by
    rw [List.all_eq_true]
    intro e he
    have := ht e he
    simp [inD]
    omega
  have h2 : decide (l.length ≤ 5096) = true := by simp; omega
  unfold mayNewD
  rw [h1, h2]
  rcases hi with rfl | rfl <;> decide
theorem leads_is (w : World) (l : List Ent) (m : Nat) (hm : l.length = m) (a0 : Option Addr) (c0 : Nat) (P : Nat → Prop) (hl : ListAt entL w P (.slice a0 m c0) l) (hd : ∀ e ∈ l, e.data.length ≤ 1000000) (hn : m ≤ 100) (ht : ∀ e ∈ l, 1 ≤ e.term ∧ e.term ≤ 6) :
    Calls Try.prog 26 #[.int .i64 0, .slice a0 m c0] w (LeadsPost 3 5 l w) := by
  subst hm
  exact leads_any w 0 3 l a0 c0 P (by decide) (by decide) hl hd hn (mat_may 1 (.inl rfl) l hn ht)
theorem cNewB_is (l : List Ent) (m : Nat) (hm : l.length = m) (a : Option Addr) (cap : Nat) (P : Nat → Prop) (w : World) (hl : ListAt entL w P (.slice a m cap) l) (hd : ∀ e ∈ l, e.data.length ≤ 1000000) (hn : m ≤ 100) (ht : ∀ e ∈ l, 1 ≤ e.term ∧ e.term ≤ 6) :
    Calls Try.prog 14 #[.agg #[.int .i64 3, .int .i64 2, .int .i64 2, .int .i64 8, .int .i64 40, .int .i64 3, .int .i64 9, .int .i64 200, .int .i64 9], .int .i64 2, .int .i64 5, .int .i64 0, .int .i64 0, .int .i64 0, .slice a m cap] w (NewYesB (cfL 3) 2 5 0 0 0 l w) := by
  subst hm
  refine (cNewB_any (cfL 3) 2 5 0 0 0 l a cap P w hl hd).mono ?_
  rintro e w' (⟨_, h⟩ | ⟨h, _⟩)
  · exact h
  · exact absurd h (by rw [mat_may 2 (.inr rfl) l hn ht]; simp)
theorem cCommit_of (w : World) (B n : Nat) (c : CoreD) (lv sv : Value) (h : CoreAt w B n c lv sv) (b : Int) (hb : c.commit = b) : Calls Try.prog 30 #[.pointer (some ⟨n, 0, none⟩)] w fun e w' => e = .returned (.int .i64 b) ∧ w' = w := by
  rw [← hb]
  exact cCommit_any w B n c lv sv h
theorem cLeader_of (w : World) (B n : Nat) (c : CoreD) (lv sv : Value) (h : CoreAt w B n c lv sv) (b : Int) (hb : c.leader = b) : Calls Try.prog 33 #[.pointer (some ⟨n, 0, none⟩)] w fun e w' => e = .returned (.int .i64 b) ∧ w' = w := by
  rw [← hb]
  exact cLeader_any w B n c lv sv h
theorem cFrom_of (w : World) (B n : Nat) (c : CoreD) (lv sv : Value) (h : CoreAt w B n c lv sv) (i : Int) (b1 : -4611686018427387904 ≤ i) (b2 : i ≤ 4611686018427387904) (l : List Ent) (hl : fromD c i = l) : Calls Try.prog 28 #[.pointer (some ⟨n, 0, none⟩), .int .i64 i] w (FromPost l w) := by
  rw [← hl]
  exact cFrom_any w B n c lv sv h i b1 b2
theorem lEntries_is (w : World) (l : List Ent) (m : Nat) (hm : l.length = m) (a0 : Option Addr) (c0 : Nat) (P : Nat → Prop) (hl : ListAt entL w P (.slice a0 m c0) l) (hd : ∀ e ∈ l, e.data.length ≤ 1000000) (hn : m ≤ 100000) :
    Calls Try.prog 20 #[.slice a0 m c0] w fun e w' => ∃ a k, e = .returned (.slice a m k) ∧ FreshEnts w w' (.slice a m k) l ∧ Keeps [] w w' := by
  subst hm
  exact lEntries_any w l a0 c0 P hl hd hn

end Go.Proofs.Ytpppoajnbhipeaa
