/- CoreGrows in plain words. -/
import Derived.Test.YtpppoajnbhipeaaHearB
import Derived.Test.YtpppoajnbhipeaaTickA
import Derived.Test.YtpppoajnbhipeaaAskA
namespace Go.Proofs.Ytpppoajnbhipeaa
open Go Go.RowKit

/-- What a call may not undo. -/
structure GrowsR (c c' : CoreD) : Prop where
  term : c.term ≤ c'.term
  commit : c.commit ≤ c'.commit
  lead : c.role = 2 → c'.term = c.term → lastD c ≤ lastD c'
  ents : ∀ i, c.base < i → i ≤ c.commit → c'.base < i → entD c' i = entD c i
  last : lastD c' ≤ max (lastD c + 8) 549755813888
  pat : 0 ≤ c.patience → 0 ≤ c'.patience ∧ c'.patience ≤ c.patience + 1

/-- The log is the same one, or longer. -/
theorem grows_log {c c' : CoreD} (hc : c.base ≤ c.commit ∧ c.commit ≤ lastD c) {r : List Ent} (hl : c'.l = c.l ++ r) (hr : r.length ≤ 8) (hb : c'.base = c.base) (h1 : c.term ≤ c'.term) (h2 : c.commit ≤ c'.commit) (hp : 0 ≤ c.patience → 0 ≤ c'.patience ∧ c'.patience ≤ c.patience + 1) : GrowsR c c' := by
  have e : lastD c' = lastD c + r.length := by unfold lastD; rw [hl, hb, List.length_append]; omega
  refine ⟨h1, h2, fun _ _ => by omega, fun i i1 i2 i3 => ?_, by omega, hp⟩
  unfold entD
  rw [e, hb, if_neg (by omega), if_neg (by omega), hl, List.getElem?_append_left]
  unfold lastD at hc
  omega
theorem GrowsR.refl {c : CoreD} (hc : c.base ≤ c.commit ∧ c.commit ≤ lastD c) : GrowsR c c := grows_log hc (r := []) (by simp) (by simp) rfl (Int.le_refl _) (Int.le_refl _) (fun h => by omega)
theorem ok_commit {c : CoreD} (h : CoreOk c) : c.base ≤ c.commit ∧ c.commit ≤ lastD c := ⟨h.base.2, h.commit⟩

theorem fold_pat : ∀ (r : List Ent) (c : CoreD), (r.foldl putD c).patience = c.patience
  | [], _ => rfl
  | e :: r, c => fold_pat r (putD c e)
/-- What entries leave of the log. -/
structure PutsR (c c' : CoreD) (k : Nat) : Prop where
  term : c'.term = c.term
  commit : c'.commit = c.commit
  base : c'.base = c.base
  pat : c'.patience = c.patience
  keep : ∀ j : Nat, (j : Int) < c.commit - c.base → c'.l[j]? = c.l[j]?
  last : lastD c' ≤ lastD c + k
theorem puts_keep {c : CoreD} : ∀ (l : List Ent) (a : Int) (c' : CoreD), c.base ≤ a → a ≤ lastD c → putsD c a l = some c' → PutsR c c' l.length
  | [], a, c', _, _, h => by
    cases h
    exact ⟨rfl, rfl, rfl, rfl, fun _ _ => rfl, by simp⟩
  | e :: r, a, c', h1, h2, h => by
    by_cases hm : (atD c (a + 1)).2 = true ∧ (atD c (a + 1)).1 = e.term
    · rw [puts_match hm] at h
      have h3 : a + 1 ≤ lastD c := by
        have h4 := hm.1
        unfold atD at h4
        split at h4
        · omega
        · split at h4
          · cases h4
          · omega
      have h5 := puts_keep r (a + 1) c' (by omega) h3 h
      exact ⟨h5.term, h5.commit, h5.base, h5.pat, h5.keep, by have := h5.last; simp; omega⟩
    · by_cases hn : a + 1 ≤ c.commit ∨ 5096 < a - c.base + ((r.length : Int) + 1)
      · rw [puts_none hm hn] at h
        cases h
      · rw [puts_some hm hn] at h
        cases h
        have hs := fold_same (e :: r) { c with l := c.l.take (a - c.base).toNat }
        refine ⟨hs.1.term, hs.1.commit, hs.1.base, fold_pat _ _, fun j hj => ?_, ?_⟩
        · rw [hs.2]
          show (c.l.take (a - c.base).toNat ++ (e :: r))[j]? = _
          have hlen : (c.l.take (a - c.base).toNat).length = (a - c.base).toNat := by unfold lastD at h2; simp; omega
          rw [List.getElem?_append_left (by rw [hlen]; omega), List.getElem?_take_of_lt (by omega)]
        · unfold lastD
          rw [hs.2, hs.1.base]
          show c.base + ((c.l.take (a - c.base).toNat ++ (e :: r)).length : Int) ≤ c.base + c.l.length + ((e :: r).length : Int)
          rw [List.length_append, List.length_take]
          omega
theorem puts_grows {c c' : CoreD} {v : Int} {l : List Ent} (hok : CoreOk c) (hr : c.role ≠ 2) (h : PutsR c c' l.length) (hl : l.length ≤ 8) : GrowsR c { c' with commit := max c.commit v } := by
  have hc := ok_commit hok
  refine ⟨by show c.term ≤ c'.term; rw [h.term]; omega, by show c.commit ≤ max c.commit v; omega, fun h2 => absurd h2 hr, fun i i1 i2 i3 => ?_, ?_, fun hp => by show 0 ≤ c'.patience ∧ c'.patience ≤ c.patience + 1; rw [h.pat]; omega⟩
  · have hk := h.keep (i - c.base - 1).toNat (by omega)
    have hcl : (i - c.base - 1).toNat < c.l.length := by unfold lastD at hc; omega
    have hsome : c'.l[(i - c.base - 1).toNat]? = some (c.l[(i - c.base - 1).toNat]'hcl) := by rw [hk]; exact List.getElem?_eq_getElem _
    have hlt := (List.getElem?_eq_some_iff.1 hsome).1
    unfold entD lastD
    show (if i ≤ c'.base ∨ c'.base + (c'.l.length : Int) < i then none else c'.l[(i - c'.base - 1).toNat]?) = _
    rw [h.base, if_neg (by omega), if_neg (by unfold lastD at hc; omega), hk]
  · show lastD c' ≤ _
    have := h.last
    omega

theorem append_grows {c : CoreD} {m : MsgD} (hok : CoreOk c) (hr : c.role ≠ 2) (he : m.entries.length ≤ 8) : GrowsR c (appendD c m).1 := by
  have hc := ok_commit hok
  have hat : ∀ (a : Int) (l : List Ent) (ps : Bool), c.base ≤ a → l.length ≤ 8 → GrowsR c (appendAt c m a l ps).1 := fun a l ps ha hl => by
    unfold appendAt
    rcases hf : fitD c a m.b ps with _ | _
    · exact GrowsR.refl hc
    · have hal : a ≤ lastD c := by
        unfold fitD at hf
        simp only [Bool.and_eq_true] at hf
        have h2 := hf.1
        unfold atD at h2
        split at h2
        · have := hok.commit; unfold lastD; omega
        · split at h2
          · cases h2
          · omega
      rcases hp : putsD c a l with _ | c'
      · exact GrowsR.refl hc
      · exact puts_grows hok hr (puts_keep l a c' ha hal hp) hl
  unfold appendD
  split
  · exact hat _ _ _ (by assumption) he
  · split
    · exact hat _ _ _ (Int.le_refl _) (by rw [List.length_drop]; omega)
    · exact GrowsR.refl hc

theorem takes_grows {c : CoreD} {m : MsgD} (hok : CoreOk c) (hr : c.role ≠ 2) (ha : m.a ≤ 549755813888) : GrowsR c (takesD c m).1 := by
  have hc := ok_commit hok
  unfold takesD
  split
  · exact GrowsR.refl hc
  · rename_i hlt
    split
    · rename_i hf
      have hal : c.base < m.a ∧ m.a ≤ lastD c := by
        refine ⟨by omega, ?_⟩
        have h2 := hf.1
        unfold atD at h2
        split at h2
        · omega
        · split at h2
          · cases h2
          · omega
      refine ⟨Int.le_refl _, by show c.commit ≤ m.a; omega, fun h => absurd h hr, fun i _ i2 i3 => ?_, ?_, fun hp => by show 0 ≤ c.patience ∧ c.patience ≤ c.patience + 1; omega⟩
      · have i3 : m.a < i := i3
        omega
      · show m.a + ((c.l.drop (m.a - c.base).toNat).length : Int) ≤ _
        rw [List.length_drop]
        unfold lastD at hal ⊢
        omega
    · refine ⟨Int.le_refl _, by show c.commit ≤ m.a; omega, fun h => absurd h hr, fun i _ i2 i3 => ?_, ?_, fun hp => by show 0 ≤ c.patience ∧ c.patience ≤ c.patience + 1; omega⟩
      · have i3 : m.a < i := i3
        omega
      · show m.a + ((0 : Nat) : Int) ≤ _
        omega

theorem voted_grows {c : CoreD} {m : MsgD} (hok : CoreOk c) : GrowsR c (votedD c m).1 := by
  have hc := ok_commit hok
  unfold votedD
  split
  · exact GrowsR.refl hc
  · split
    · exact grows_log hc (r := []) (by show c.l = c.l ++ []; simp) (by simp) rfl (Int.le_refl _) (Int.le_refl _) (fun h => by show 0 ≤ c.patience ∧ c.patience ≤ _; omega)
    · show GrowsR c (leadD (votedC c m))
      unfold leadD
      split
      · exact grows_log hc (r := [{ term := c.term, cmd := false, data := [] }]) rfl (by simp) rfl (Int.le_refl _) (Int.le_refl _) (fun h => by show (0 : Int) ≤ 0 ∧ (0 : Int) ≤ _; omega)
      · exact grows_log hc (r := []) (by show c.l = c.l ++ []; simp) (by simp) rfl (Int.le_refl _) (Int.le_refl _) (fun h => by show (0 : Int) ≤ 0 ∧ (0 : Int) ≤ _; omega)
theorem asked_grows {c : CoreD} {m : MsgD} (hok : CoreOk c) : GrowsR c (askedD c m).1 := by
  have hc := ok_commit hok
  show GrowsR c (askedC c m)
  unfold askedC
  split
  · exact grows_log hc (r := []) (by show c.l = c.l ++ []; simp) (by simp) rfl (Int.le_refl _) (Int.le_refl _) (fun h => by show (0 : Int) ≤ 0 ∧ (0 : Int) ≤ _; omega)
  · exact GrowsR.refl hc
theorem appended_grows {c : CoreD} {m : MsgD} (hok : CoreOk c) : GrowsR c (appendedD c m).1 := by
  have hc := ok_commit hok
  unfold appendedD
  split
  · exact GrowsR.refl hc
  · split
    · exact grows_log hc (r := []) (by show c.l = c.l ++ []; simp) (by simp) rfl (Int.le_refl _) (Int.le_refl _) (fun h => by show 0 ≤ c.patience ∧ c.patience ≤ _; omega)
    · exact grows_log hc (r := []) (by show c.l = c.l ++ []; simp) (by simp) rfl (Int.le_refl _) (agreesTo_bd (appYes c m) _).1 (fun h => by show 0 ≤ c.patience ∧ c.patience ≤ _; omega)
theorem GrowsR.follow {c c' : CoreD} {m : MsgD} (hr : c.role ≠ 2) (h : GrowsR (followD c m) c') (hok : CoreOk c) : GrowsR c c' :=
  ⟨h.term, h.commit, fun h2 => absurd h2 hr, h.ents, h.last, fun hp => by have := h.pat (by show (0 : Int) ≤ 0; omega); have h3 : c'.patience ≤ 0 + 1 := this.2; omega⟩
theorem heard_grows {c : CoreD} {m : MsgD} (hok : CoreOk c) (he : m.entries.length ≤ 8) : GrowsR c (heardD c m).1 := by
  have hc := ok_commit hok
  unfold heardD
  split
  · exact asked_grows hok
  split
  · exact voted_grows hok
  split
  · exact appended_grows hok
  split
  · exact GrowsR.refl hc
  split
  · exact GrowsR.refl hc
  · rename_i hn
    have hr : c.role ≠ 2 := fun h => hn (.inl h)
    split
    · rename_i hk
      refine GrowsR.follow (m := m) hr (takes_grows (followD_ok hok m) (by show (0 : Int) ≠ 2; decide) ?_) hok
      have hs : snapNo m = false := by
        cases h : snapNo m
        · rfl
        · exact absurd (.inr h) hn
      unfold snapNo at hs
      rw [hk] at hs
      simp [inD] at hs
      exact hs.1.2
    · exact GrowsR.follow (m := m) hr (append_grows (followD_ok hok m) (by show (0 : Int) ≠ 2; decide) he) hok
theorem hear_grows {c : CoreD} {m : MsgD} (hok : CoreOk c) : GrowsR c (hearD c m).1 := by
  have hc := ok_commit hok
  unfold hearD
  split
  · exact GrowsR.refl hc
  · rename_i hw
    have hw : wrongD c m = false := by simpa using hw
    have hz := hw
    unfold wrongD at hz
    simp only [Bool.or_eq_false_iff] at hz
    have he := (wrongHead_no hz.1).2.2.2.2.2.2.2.2
    have h := heard_grows (c := stepD c m) (stepD_ok hok hw) he
    by_cases hs : c.term < m.term
    · have e : stepD c m = { risesD c m.term 0 with role := 0, leader := 0 } := by unfold stepD; rw [if_pos hs]
      rw [e] at h ⊢
      have ht : m.term ≤ (heardD { risesD c m.term 0 with role := 0, leader := 0 } m).1.term := h.term
      exact ⟨by omega, h.commit, fun _ h3 => by omega, h.ents, h.last, h.pat⟩
    · have e : stepD c m = c := by unfold stepD; rw [if_neg hs]
      rw [e] at h ⊢
      exact h
theorem tick_grows {c : CoreD} (hok : CoreOk c) : GrowsR c (tickD c).1 := by
  have hc := ok_commit hok
  by_cases hr : c.role = 2
  · by_cases hh : c.patience + 1 < c.conf.heart
    · rw [tickD_still hr hh]
      exact grows_log hc (r := []) (by show c.l = c.l ++ []; simp) (by simp) rfl (Int.le_refl _) (Int.le_refl _) (fun h => by show 0 ≤ c.patience + 1 ∧ c.patience + 1 ≤ _; omega)
    · rw [tickD_sends hr hh]
      exact grows_log hc (r := []) (by show c.l = c.l ++ []; simp) (by simp) rfl (Int.le_refl _) (Int.le_refl _) (fun h => by show (0 : Int) ≤ 0 ∧ (0 : Int) ≤ _; omega)
  · by_cases hw : c.patience + 1 < c.conf.lo + c.draw ∨ 1099511627776 ≤ c.term
    · rw [tickD_waits hr hw]
      exact grows_log hc (r := []) (by show c.l = c.l ++ []; simp) (by simp) rfl (Int.le_refl _) (Int.le_refl _) (fun h => by show 0 ≤ c.patience + 1 ∧ c.patience + 1 ≤ _; omega)
    · rw [tickD_runs hr hw]
      exact grows_log hc (r := []) (by show c.l = c.l ++ []; simp) (by simp) rfl (by show c.term ≤ c.term + 1; omega) (Int.le_refl _) (fun h => by show (0 : Int) ≤ 0 ∧ (0 : Int) ≤ _; omega)
theorem draw_grows {c : CoreD} (hok : CoreOk c) (v : Int) : GrowsR c (drawD c v) :=
  grows_log (ok_commit hok) (r := []) (by show c.l = c.l ++ []; simp) (by simp) rfl (Int.le_refl _) (Int.le_refl _) (fun h => by show 0 ≤ c.patience ∧ c.patience ≤ _; omega)
theorem ask_grows {c : CoreD} (hok : CoreOk c) (d : List UInt8) : GrowsR c (askD c d).1 := by
  have hc := ok_commit hok
  unfold askD
  split
  · exact GrowsR.refl hc
  · split
    · exact GrowsR.refl hc
    · exact grows_log hc (r := [{ term := c.term, cmd := true, data := d }]) rfl (by simp) rfl (Int.le_refl _) (Int.le_refl _) (fun h => by show 0 ≤ c.patience ∧ c.patience ≤ _; omega)

end Go.Proofs.Ytpppoajnbhipeaa
