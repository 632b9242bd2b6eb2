/- CoreAgrees in plain words. -/
import Derived.Test.YtpppoajnbhipeaaLeadD
namespace Go.Proofs.Ytpppoajnbhipeaa
open Go Go.RowKit

def appM (f a : Int) (ok : Bool) (t : Int) : MsgD := { kind := 4, frm := f, to := 1, term := t, a := a, b := 0, c := 0, ok := ok, entries := [], data := [] }
/-- More than half have index k, and it is none of an elder term. -/
def satD (c : CoreD) (E : Nat) (k : Nat) : Prop := E < k ∧ c.conf.nodes / 2 < haveD c (k : Int) c.conf.nodes.toNat
instance (c : CoreD) (E k : Nat) : Decidable (satD c E k) := by unfold satD; infer_instance
def bestTo (c : CoreD) (E : Nat) : Nat → Int
  | 0 => 0
  | k + 1 => if satD c E (k + 1) then ((k + 1 : Nat) : Int) else bestTo c E k

theorem haveD_congr {c c' : CoreD} (h1 : c'.id = c.id) (h2 : c'.matc = c.matc) (i : Int) : ∀ t, haveD c' i t = haveD c i t
  | 0 => rfl
  | t + 1 => by unfold haveD; rw [haveD_congr h1 h2 i t, h1, h2]
theorem haveD_mono {c c' : CoreD} (h1 : c'.id = c.id) (h2 : ∀ j, c.matc.getD j 0 ≤ c'.matc.getD j 0) (i : Int) : ∀ t, haveD c i t ≤ haveD c' i t
  | 0 => Int.le_refl _
  | t + 1 => by
    have h3 := haveD_mono h1 h2 i t
    have h4 := h2 (t + 1)
    unfold haveD
    rw [h1]
    split
    · rename_i hx
      rw [if_pos ⟨hx.1, by omega⟩]
      omega
    · split <;> omega
theorem satD_congr {c c' : CoreD} {E k : Nat} (h0 : c'.conf = c.conf) (h1 : c'.id = c.id) (h2 : c'.matc = c.matc) : satD c' E k ↔ satD c E k := by
  unfold satD
  rw [haveD_congr h1 h2, h0]
theorem satD_mono {c c' : CoreD} {E k : Nat} (h0 : c'.conf = c.conf) (h1 : c'.id = c.id) (h2 : ∀ j, c.matc.getD j 0 ≤ c'.matc.getD j 0) (h : satD c E k) : satD c' E k := by
  refine ⟨h.1, ?_⟩
  have := haveD_mono h1 h2 k c.conf.nodes.toNat
  have h3 := h.2
  rw [h0]
  omega
theorem bestTo_congr {c c' : CoreD} {E : Nat} (h0 : c'.conf = c.conf) (h1 : c'.id = c.id) (h2 : c'.matc = c.matc) : ∀ k, bestTo c' E k = bestTo c E k
  | 0 => rfl
  | k + 1 => by
    unfold bestTo
    rw [bestTo_congr h0 h1 h2 k]
    by_cases h : satD c E (k + 1)
    · rw [if_pos h, if_pos ((satD_congr h0 h1 h2).2 h)]
    · rw [if_neg h, if_neg (fun hx => h ((satD_congr h0 h1 h2).1 hx))]
theorem bestTo_sat (c : CoreD) (E : Nat) : ∀ k, bestTo c E k = 0 ∨ ∃ j, 1 ≤ j ∧ j ≤ k ∧ bestTo c E k = ((j : Nat) : Int) ∧ satD c E j
  | 0 => .inl rfl
  | k + 1 => by
    unfold bestTo
    split
    · rename_i h
      exact .inr ⟨k + 1, by omega, by omega, rfl, h⟩
    · rcases bestTo_sat c E k with h | ⟨j, h1, h2, h3, h4⟩
      · exact .inl h
      · exact .inr ⟨j, h1, by omega, h3, h4⟩

/-- What holds of a leader: agreed is the greatest index that may be. -/
structure AgI (p : Int) (E : Nat) (bn : Nat → Prop) (c : CoreD) : Prop where
  conf : c.conf = cfL p
  id : c.id = 1
  term : c.term = 2
  role : c.role = 2
  base : c.base = 0
  terms : ∀ (i : Nat) (e : Ent), c.l[i]? = some e → e.term = if i < E then 1 else 2
  best : c.commit = bestTo c E c.l.length
  mlen : c.matc.length = 8
  ban : c.ban = bn

theorem AgI.commit_le {p : Int} {E : Nat} {bn : Nat → Prop} {c : CoreD} (h : AgI p E bn c) : 0 ≤ c.commit ∧ c.commit ≤ c.l.length := by
  rw [h.best]
  rcases bestTo_sat c E c.l.length with h | ⟨j, h1, h2, h3, _⟩
  · rw [h]; omega
  · rw [h3]; omega
theorem AgI.at_ {p : Int} {E : Nat} {bn : Nat → Prop} {c : CoreD} (h : AgI p E bn c) {k : Nat} (h1 : 1 ≤ k) (h2 : k ≤ c.l.length) : (atD c (k : Int)).1 = c.term ↔ E < k := by
  obtain ⟨e, he⟩ : ∃ e, c.l[k - 1]? = some e := ⟨c.l[k - 1]'(by omega), List.getElem?_eq_getElem _⟩
  have ht := h.terms _ e he
  unfold atD lastD
  rw [h.base, if_neg (by omega), if_neg (by omega), show ((k : Int) - 0 - 1).toNat = k - 1 by omega, he, h.term]
  show e.term = 2 ↔ _
  rw [ht]
  split <;> omega
theorem AgI.agrees {p : Int} {E : Nat} {bn : Nat → Prop} {c c1 : CoreD} (h : AgI p E bn c) (h0 : c1.conf = c.conf) (h1 : c1.id = c.id) (hl : c1.l = c.l) (hb : c1.base = c.base) (hc : c1.commit = c.commit) (ht : c1.term = c.term) (hm : ∀ j, c.matc.getD j 0 ≤ c1.matc.getD j 0) :
    ∀ k : Nat, c.commit.toNat + k ≤ c.l.length → bestTo c1 E (c.commit.toNat + k) = agreesTo c1 k
  | 0, _ => by
    show bestTo c1 E c.commit.toNat = c1.commit
    rw [hc]
    have hx := bestTo_sat c E c.l.length
    rw [← h.best] at hx
    rcases hx with hx | ⟨j, j1, j2, j3, j4⟩
    · rw [hx]; rfl
    · rw [j3]
      have : ((j : Nat) : Int).toNat = (j - 1) + 1 := by omega
      rw [this]
      unfold bestTo
      rw [if_pos (by rw [show j - 1 + 1 = j by omega]; exact satD_mono h0 h1 hm j4)]
      omega
  | k + 1, hk => by
    have ih := AgI.agrees h h0 h1 hl hb hc ht hm k (by omega)
    have hc0 := h.commit_le
    show bestTo c1 E (c.commit.toNat + k + 1) = _
    unfold bestTo agreesTo
    rw [ih, hc]
    have e1 : c.commit + ((k + 1 : Nat) : Int) = ((c.commit.toNat + k + 1 : Nat) : Int) := by omega
    rw [e1]
    have ha : (atD c1 ((c.commit.toNat + k + 1 : Nat) : Int)).1 = c1.term ↔ E < c.commit.toNat + k + 1 := by
      have e : atD c1 ((c.commit.toNat + k + 1 : Nat) : Int) = ((atD c ((c.commit.toNat + k + 1 : Nat) : Int)).1, (atD c1 ((c.commit.toNat + k + 1 : Nat) : Int)).2) := by
        have hbt : ∀ i : Int, i ≠ c.base → (atD c1 i).1 = (atD c i).1 := fun i hi => by
          unfold atD lastD
          rw [hl, hb, if_neg hi, if_neg hi]
        rw [← hbt _ (by rw [h.base]; omega)]
      rw [e, ht]
      exact h.at_ (by omega) (by omega)
    by_cases hs : satD c1 E (c.commit.toNat + k + 1)
    · rw [if_pos hs, if_pos ⟨ha.2 hs.1, hs.2⟩]
    · rw [if_neg hs, if_neg (fun hx => hs ⟨ha.1 hx.1, hx.2⟩)]

theorem getD_set_le {l : List Int} {f : Nat} {a : Int} (hf : f < l.length) (j : Nat) : l.getD j 0 ≤ (l.set f (max (l.getD f 0) a)).getD j 0 := by
  simp only [List.getD_eq_getElem?_getD, List.getElem?_set]
  by_cases h : f = j
  · subst h
    rw [if_pos rfl, if_pos hf]
    simp
    omega
  · rw [if_neg h]
    exact Int.le_refl _
theorem inD_yes {v a b : Int} (h : a ≤ v ∧ v ≤ b) : inD v a b = true := by
  unfold inD
  rw [decide_eq_true h.1, decide_eq_true h.2]
  rfl
theorem ag_heard {p : Int} {E : Nat} {bn : Nat → Prop} {c : CoreD} (h : AgI p E bn c) {f a : Int} {ok : Bool} (hf : 2 ≤ f ∧ f ≤ p) (ha : 0 ≤ a ∧ a ≤ 1000000) : hearD c (appM f a ok 2) = appendedD c (appM f a ok 2) := by
  have hr : wrongD c (appM f a ok 2) = false := by
    have e2 : inD f 1 p = true := inD_yes (by omega)
    have e3 : (f == 1) = false := by simp; omega
    have e5 : inD a 0 1099511627776 = true := inD_yes (by omega)
    simp only [wrongD, wrongHead, appM, h.conf, h.id, cfL, e2, e3, e5, List.any_nil, List.length_nil]
    rfl
  unfold hearD
  rw [hr]
  have e : stepD c (appM f a ok 2) = c := by unfold stepD; rw [if_neg (by rw [h.term]; show ¬ (2 : Int) < 2; omega)]
  rw [e]
  show heardD c (appM f a ok 2) = _
  unfold heardD
  rw [if_neg (by show ¬ (4 : Int) = 1; omega), if_neg (by show ¬ (4 : Int) = 2; omega), if_pos (show (appM f a ok 2).kind = 4 from rfl)]
/-- What was told, and what it makes of it. -/
def agMat (c : CoreD) (f a : Int) (ok : Bool) : List Int := if ok = true ∧ a ≤ c.l.length then c.matc.set f.toNat (max (c.matc.getD f.toNat 0) a) else c.matc
theorem ag_step {p : Int} {E : Nat} {bn : Nat → Prop} {c : CoreD} (h : AgI p E bn c) {f a : Int} {ok : Bool} (hf : 2 ≤ f ∧ f ≤ p) (hp : p ≤ 5) (ha : 0 ≤ a ∧ a ≤ 1000000) :
    AgI p E bn (hearD c (appM f a ok 2)).1 ∧ (hearD c (appM f a ok 2)).1.l = c.l ∧ (hearD c (appM f a ok 2)).1.matc = agMat c f a ok := by
  rw [ag_heard h hf ha]
  have hla : lastD c = c.l.length := by unfold lastD; rw [h.base]; omega
  unfold appendedD agMat
  by_cases h1 : ok = true ∧ lastD c < a
  · rw [if_pos (.inr (.inr h1)), if_neg (by rw [hla] at h1; omega)]
    exact ⟨h, rfl, rfl⟩
  · rw [if_neg (by rintro (hx | hx | hx)
                   exact hx (by rw [h.term]; rfl)
                   exact hx h.role
                   exact h1 hx)]
    rcases ok with _ | _
    · rw [if_pos (show (appM f a false 2).ok = false from rfl), if_neg (by simp)]
      exact ⟨{ conf := h.conf, id := h.id, term := h.term, role := h.role, base := h.base, terms := h.terms, best := by show c.commit = bestTo _ E c.l.length; rw [h.best]; exact (bestTo_congr (c := c) (c' := appNo c (appM f a false 2)) rfl rfl rfl _).symm, mlen := h.mlen, ban := h.ban }, rfl, rfl⟩
    · rw [if_neg (by show ¬ true = false; simp)]
      have hal : a ≤ c.l.length := by
        rw [hla] at h1
        rcases Int.lt_or_le (c.l.length : Int) a with hx | hx
        · exact absurd ⟨rfl, hx⟩ h1
        · exact hx
      rw [if_pos ⟨rfl, hal⟩]
      have hmm : ∀ j, c.matc.getD j 0 ≤ (appYes c (appM f a true 2)).matc.getD j 0 := fun j => getD_set_le (by rw [h.mlen]; show f.toNat < 8; omega) j
      have hag := h.agrees (c1 := appYes c (appM f a true 2)) rfl rfl rfl rfl rfl rfl hmm
      have hcl := h.commit_le
      refine ⟨{ conf := h.conf, id := h.id, term := h.term, role := h.role, base := h.base, terms := h.terms, best := ?_, mlen := by show (List.set _ _ _).length = 8; rw [List.length_set]; exact h.mlen, ban := h.ban }, rfl, rfl⟩
      show agreesTo (appYes c (appM f a true 2)) (lastD (appYes c (appM f a true 2)) - c.commit).toNat = bestTo (agreesD (appYes c (appM f a true 2))) E c.l.length
      rw [bestTo_congr (c := appYes c (appM f a true 2)) (c' := agreesD (appYes c (appM f a true 2))) rfl rfl rfl]
      have e : (lastD (appYes c (appM f a true 2)) - c.commit).toNat = c.l.length - c.commit.toNat := by
        show (c.base + (c.l.length : Int) - c.commit).toNat = _
        rw [h.base]
        omega
      rw [e, ← hag _ (by omega)]
      rw [show c.commit.toNat + (c.l.length - c.commit.toNat) = c.l.length by omega]

/-- Nobody has anything. -/
theorem haveD_none {c : CoreD} (h : c.matc = List.replicate 8 0) {i : Int} (hi : 1 ≤ i) : ∀ t, haveD c i t = 1
  | 0 => rfl
  | t + 1 => by
    unfold haveD
    rw [haveD_none h hi t, h, if_neg]
    · rfl
    · rintro ⟨_, h2⟩
      have : (List.replicate 8 (0 : Int)).getD (t + 1) 0 = 0 := by
        simp only [List.getD_eq_getElem?_getD, List.getElem?_replicate]
        split <;> rfl
      rw [this] at h2
      omega
theorem bestTo_none {c : CoreD} {E : Nat} (h : c.matc = List.replicate 8 0) (hp : 2 ≤ c.conf.nodes) : ∀ k, bestTo c E k = 0
  | 0 => rfl
  | k + 1 => by
    unfold bestTo
    rw [if_neg, bestTo_none h hp k]
    rintro ⟨_, h2⟩
    rw [haveD_none h (by omega)] at h2
    omega


/-- The elder entries. -/
def eldE (k : Nat) : Ent := { term := 1, cmd := true, data := [UInt8.ofNat k] }
def eldD (k : Nat) : List Ent := (List.range k).map eldE
theorem eldD_succ (k : Nat) : eldD (k + 1) = eldD k ++ [eldE k] := by simp [eldD, List.range_succ]
theorem eldD_len (k : Nat) : (eldD k).length = k := by simp [eldD]
theorem eldD_term (k : Nat) : ∀ e ∈ eldD k, e.term = 1 ∧ e.data.length = 1 := fun e he => by
  obtain ⟨i, _, rfl⟩ := List.mem_map.1 he
  exact ⟨rfl, rfl⟩
theorem cfL_may {p : Int} (h : 3 ≤ p ∧ p ≤ 5) : (cfL p).may = true := by
  rw [ConfD.may_iff]
  unfold cfL
  simp only []
  omega
theorem eldNew_may {E : Nat} {p : Int} (h : 3 ≤ p ∧ p ≤ 5) (hE : E ≤ 100) : mayNewD (cfL p) 1 1 0 0 0 (eldD E) = true := by
  have h1 := eldD_len E
  simp only [mayNewD, inD, Bool.and_eq_true, decide_eq_true_eq, List.all_eq_true]
  refine ⟨⟨⟨⟨⟨⟨⟨cfL_may h, ?_, ?_⟩, ?_, ?_⟩, ?_, ?_⟩, ?_, ?_⟩, ?_, ?_⟩, ?_⟩, fun e he => ?_⟩
  all_goals first
    | omega
    | (have := (eldD_term E e he).1; omega)
    | (show (0 : Int) ≤ p; omega)
    | (show (1 : Int) ≤ p; omega)
theorem led_ag {p : Int} {E : Nat} {c : CoreD} (hp : 3 ≤ p) (h : Led p 1 (eldD E) c) : AgI p E (fun _ => False) c :=
  { conf := h.conf, id := h.id, term := h.term, role := h.role, base := h.base
    terms := fun i e he => by
      rw [h.log] at he
      rw [List.getElem?_append] at he
      split at he
      · rename_i hi
        rw [eldD_len] at hi
        rw [if_pos hi]
        exact (eldD_term E e (List.mem_of_getElem? he)).1
      · rename_i hi
        rw [eldD_len] at hi he
        rw [if_neg hi]
        have hx := List.mem_of_getElem? he
        simp at hx
        rw [hx]
    best := by rw [h.commit, bestTo_none h.matc (by rw [h.conf]; show 2 ≤ p; omega)]
    mlen := by rw [h.matc]; rfl
    ban := h.ban }
theorem ask_ag {p : Int} {E : Nat} {bn : Nat → Prop} {c : CoreD} (hp : 3 ≤ p) (h : AgI p E bn c) (hE : E ≤ c.l.length) (hm : c.matc = List.replicate 8 0) (d : List UInt8) : AgI p E bn (askC c d) ∧ (askC c d).matc = List.replicate 8 0 ∧ (askC c d).l.length = c.l.length + 1 :=
  ⟨{ conf := h.conf, id := h.id, term := h.term, role := h.role, base := h.base
     terms := fun i e he => by
       have he : (c.l ++ [{ term := c.term, cmd := true, data := d }])[i]? = some e := he
       rw [List.getElem?_append] at he
       split at he
       · exact h.terms i e he
       · rename_i hi
         have hx := List.mem_of_getElem? he
         simp at hx
         rw [if_neg (by omega), hx]
         exact h.term
     best := by
       have hcn : 2 ≤ c.conf.nodes := by rw [h.conf]; show 2 ≤ p; omega
       have e : c.commit = 0 := by rw [h.best, bestTo_none hm hcn]
       rw [bestTo_none (c := askC c d) hm hcn]
       exact e
     mlen := h.mlen, ban := h.ban }, hm, by show (c.l ++ [_]).length = _; simp⟩
theorem AgI.banned {p : Int} {E : Nat} {bn bn' : Nat → Prop} {c : CoreD} (h : AgI p E bn c) : AgI p E bn' { c with ban := bn' } :=
  { conf := h.conf, id := h.id, term := h.term, role := h.role, base := h.base, terms := h.terms, best := h.best.trans (bestTo_congr (c := c) (c' := { c with ban := bn' }) rfl rfl rfl _).symm, mlen := h.mlen, ban := rfl }

theorem have_one {c : CoreD} (h : c.id = 1) (i : Int) : haveD c i 1 = 1 := by
  unfold haveD
  rw [if_neg (by rw [h]; rintro ⟨h1, _⟩; exact h1 rfl)]
  rfl
theorem have_succ {c : CoreD} (h : c.id = 1) (i : Int) {x : Nat} (hx : 2 ≤ x) : haveD c i x = haveD c i (x - 1) + (if i ≤ c.matc.getD x 0 then 1 else 0) := by
  obtain ⟨y, rfl⟩ : ∃ y, x = y + 1 := ⟨x - 1, by omega⟩
  conv => lhs; unfold haveD
  rw [h, Nat.add_sub_cancel]
  by_cases hm : i ≤ c.matc.getD (y + 1) 0
  · rw [if_pos ⟨by omega, hm⟩, if_pos hm]
  · rw [if_neg (fun hx => hm hx.2), if_neg hm]
theorem have_bd (c : CoreD) (i : Int) : ∀ t : Nat, 1 ≤ haveD c i t ∧ haveD c i t ≤ t + 1
  | 0 => by simp [haveD]
  | t + 1 => by
    have := have_bd c i t
    unfold haveD
    split <;> omega
theorem best_succ (c : CoreD) (E k : Nat) (hk : 1 ≤ k) : bestTo c E k = if satD c E k then ((k : Nat) : Int) else bestTo c E (k - 1) := by
  obtain ⟨y, rfl⟩ : ∃ y, k = y + 1 := ⟨k - 1, by omega⟩
  conv => lhs; unfold bestTo
  rfl

end Go.Proofs.Ytpppoajnbhipeaa
