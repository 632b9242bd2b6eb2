/- Joined of PlayC, AskA. -/
import Derived.Test.YtpppoajnbhipeaaQ29
import Derived.Test.YtpppoajnbhipeaaQ10
import Derived.Test.YtpppoajnbhipeaaQ07

/- CorePlays, plain: the core and the document's core go side by side. -/
namespace Go.Proofs.Ytpppoajnbhipeaa
open Go Go.RowKit

/-- Lists that are alike at the places 1 to n. -/
def Agr (n : Nat) (l l' : List Int) : Prop := l'.length = l.length ∧ ∀ i, 1 ≤ i → i ≤ n → l'.getD i 0 = l.getD i 0
theorem Agr.refl (n : Nat) (l : List Int) : Agr n l l := ⟨rfl, fun _ _ _ => rfl⟩
theorem Agr.set {n : Nat} {l l' : List Int} (h : Agr n l l') (i : Nat) (v : Int) : Agr n (l.set i v) (l'.set i v) := by
  refine ⟨by rw [List.length_set, List.length_set]; exact h.1, fun j h1 h2 => ?_⟩
  have := h.2 j h1 h2
  rw [List.getD_eq_getElem?_getD, List.getD_eq_getElem?_getD] at this ⊢
  rw [List.getElem?_set, List.getElem?_set, h.1]
  split
  · split <;> rfl
  · exact this
def wn (c : CoreD) (nx mx : List Int) (f : Nat → Prop) : CoreD := { c with next := nx, matc := mx, ban := f }
def Kin (c r : CoreD) : Prop := ∃ nx mx f, r = wn c nx mx f ∧ Agr c.conf.nodes.toNat c.next nx ∧ Agr c.conf.nodes.toNat c.matc mx
def VotesOk (c : CoreD) : Prop := ∀ i, c.votes.getD i false = true → 1 ≤ i ∧ i ≤ c.conf.nodes.toNat

theorem sendD_wn {c : CoreD} {nx mx : List Int} {f : Nat → Prop} {to : Int} (h : nx.getD to.toNat 0 = c.next.getD to.toNat 0) : sendD (wn c nx mx f) to = sendD c to := by
  show (let next := nx.getD to.toNat 0
    if next ≤ c.base then saysD c { msg0 with kind := 5, a := c.base, b := c.baseTerm, data := c.snap } to
    else saysD c { msg0 with kind := 3, a := next - 1, b := (atD c (next - 1)).1, c := c.commit, entries := (fromD c next).take 8 } to) = _
  rw [h]
  rfl
theorem othersTo_mem {id : Int} : ∀ {n : Nat} {x : Int}, x ∈ othersTo id n → 1 ≤ x ∧ x ≤ n
  | 0, x, h => by simp [othersTo] at h
  | n + 1, x, h => by
    unfold othersTo at h
    split at h
    · have := othersTo_mem h; omega
    · rcases List.mem_append.1 h with h | h
      · have := othersTo_mem h; omega
      · simp at h; omega
theorem othersD_eq {c : CoreD} {f g : Int → MsgD} (h : ∀ to : Int, 1 ≤ to → to ≤ (c.conf.nodes.toNat : Int) → f to = g to) : othersD c f = othersD c g := by
  unfold othersD
  refine List.map_congr_left (fun x hx => ?_)
  have := othersTo_mem hx
  exact h x this.1 this.2
theorem others_wn {c : CoreD} {nx mx : List Int} {f : Nat → Prop} (h : Agr c.conf.nodes.toNat c.next nx) : othersD (wn c nx mx f) (sendD (wn c nx mx f)) = othersD c (sendD c) := by
  show othersD c (sendD (wn c nx mx f)) = _
  exact othersD_eq (fun to h1 h2 => sendD_wn (h.2 to.toNat (by omega) (by omega)))

theorem Kin.alike {c r : CoreD} (h : Kin c r) : r.term = c.term ∧ r.vote = c.vote ∧ r.role = c.role ∧ r.leader = c.leader ∧ r.commit = c.commit ∧ r.base = c.base ∧ r.baseTerm = c.baseTerm ∧ r.l = c.l ∧ r.snap = c.snap := by
  obtain ⟨nx, mx, f, rfl, _, _⟩ := h
  exact ⟨rfl, rfl, rfl, rfl, rfl, rfl, rfl, rfl, rfl⟩

/-! Draw, Compact, Changes. -/
theorem kin_draw {c r : CoreD} (h : Kin c r) (v : Int) : Kin (drawD c v) (drawD r v) := by
  obtain ⟨nx, mx, f, rfl, h1, h2⟩ := h
  exact ⟨nx, mx, f, rfl, h1, h2⟩
theorem kin_compact {c r : CoreD} (h : Kin c r) (i : Int) (data : List UInt8) : Kin (compactD c i data).1 (compactD r i data).1 ∧ (compactD r i data).2 = (compactD c i data).2 := by
  obtain ⟨nx, mx, f, rfl, h1, h2⟩ := h
  unfold compactD
  by_cases e : i ≤ c.base ∨ c.commit < i
  · rw [if_pos e, if_pos (show i ≤ (wn c nx mx f).base ∨ (wn c nx mx f).commit < i from e)]
    exact ⟨⟨nx, mx, f, rfl, h1, h2⟩, rfl⟩
  · rw [if_neg e, if_neg (show ¬ (i ≤ (wn c nx mx f).base ∨ (wn c nx mx f).commit < i) from e)]
    exact ⟨⟨nx, mx, f, rfl, h1, h2⟩, rfl⟩
theorem kin_changes {c r : CoreD} (h : Kin c r) : Kin (changesD c).1 (changesD r).1 ∧ (changesD r).2 = (changesD c).2 := by
  obtain ⟨nx, mx, f, rfl, h1, h2⟩ := h
  exact ⟨⟨nx, mx, f, rfl, h1, h2⟩, rfl⟩

/-! Tick. -/
theorem kin_tick {c r : CoreD} (h : Kin c r) : Kin (tickD c).1 (tickD r).1 ∧ (tickD r).2 = (tickD c).2 := by
  obtain ⟨nx, mx, f, rfl, h1, h2⟩ := h
  by_cases hr : c.role = 2
  · by_cases hh : c.patience + 1 < c.conf.heart
    · rw [tickD_still hr hh, tickD_still (c := wn c nx mx f) hr hh]
      exact ⟨⟨nx, mx, f, rfl, h1, h2⟩, rfl⟩
    · rw [tickD_sends hr hh, tickD_sends (c := wn c nx mx f) hr hh]
      refine ⟨⟨nx, mx, f, rfl, h1, h2⟩, ?_⟩
      exact others_wn (c := tick0 c) h1
  · by_cases hw : c.patience + 1 < c.conf.lo + c.draw ∨ 1099511627776 ≤ c.term
    · rw [tickD_waits hr hw, tickD_waits (c := wn c nx mx f) hr hw]
      exact ⟨⟨nx, mx, f, rfl, h1, h2⟩, rfl⟩
    · rw [tickD_runs hr hw, tickD_runs (c := wn c nx mx f) hr hw]
      exact ⟨⟨nx, mx, f, rfl, h1, h2⟩, rfl⟩
theorem rep_set_true {i j : Nat} (h : ((List.replicate 8 false).set i true).getD j false = true) : j = i := by
  by_cases e : i = j
  · exact e.symm
  · rw [List.getD_eq_getElem?_getD, List.getElem?_set_ne e, List.getElem?_replicate] at h
    split at h <;> simp at h
theorem votes_tick {c : CoreD} (h : VotesOk c) (ok : CoreOk c) : VotesOk (tickD c).1 := by
  by_cases hr : c.role = 2
  · by_cases hh : c.patience + 1 < c.conf.heart
    · rw [tickD_still hr hh]; exact h
    · rw [tickD_sends hr hh]; exact h
  · by_cases hw : c.patience + 1 < c.conf.lo + c.draw ∨ 1099511627776 ≤ c.term
    · rw [tickD_waits hr hw]; exact h
    · rw [tickD_runs hr hw]
      intro i hi
      have := rep_set_true hi
      have h1 := ok.id
      have : i ≤ c.conf.nodes.toNat := by omega
      exact ⟨by omega, this⟩

/-! Ask. -/
theorem kin_ask {c r : CoreD} (h : Kin c r) (data : List UInt8) : Kin (askD c data).1 (askD r data).1 ∧ (askD r data).2 = (askD c data).2 := by
  obtain ⟨nx, mx, f, rfl, h1, h2⟩ := h
  unfold askD
  by_cases e : c.role ≠ 2
  · rw [if_pos e, if_pos (show (wn c nx mx f).role ≠ 2 from e)]
    exact ⟨⟨nx, mx, f, rfl, h1, h2⟩, rfl⟩
  · rw [if_neg e, if_neg (show ¬ (wn c nx mx f).role ≠ 2 from e)]
    by_cases e2 : 4096 ≤ c.l.length
    · rw [if_pos e2, if_pos (show 4096 ≤ (wn c nx mx f).l.length from e2)]
      exact ⟨⟨nx, mx, f, rfl, h1, h2⟩, rfl⟩
    · rw [if_neg e2, if_neg (show ¬ 4096 ≤ (wn c nx mx f).l.length from e2)]
      refine ⟨⟨nx, mx, f, rfl, h1, h2⟩, ?_⟩
      show (_, othersD (wn (askC c data) nx mx f) (sendD (wn (askC c data) nx mx f)), _) = _
      rw [others_wn (c := askC c data) h1]
      rfl

/-! Hear. -/
theorem putsD_wn {nx mx : List Int} {f : Nat → Prop} : ∀ (l : List Ent) (c : CoreD) (a : Int), putsD (wn c nx mx f) a l = (putsD c a l).map fun c' => wn c' nx mx f
  | [], c, a => rfl
  | e :: r, c, a => by
    by_cases hm : (atD c (a + 1)).2 = true ∧ (atD c (a + 1)).1 = e.term
    · rw [puts_match hm, puts_match (c := wn c nx mx f) hm, putsD_wn r c (a + 1)]
    · by_cases hb : a + 1 ≤ c.commit ∨ 5096 < a - c.base + ((r.length : Int) + 1)
      · rw [puts_none hm hb, puts_none (c := wn c nx mx f) hm hb]
        rfl
      · rw [puts_some hm hb, puts_some (c := wn c nx mx f) hm hb]
        have : ∀ (l : List Ent) (c : CoreD), l.foldl putD (wn c nx mx f) = wn (l.foldl putD c) nx mx f := by
          intro l
          induction l with
          | nil => intro c; rfl
          | cons x l ih => intro c; exact ih (putD c x)
        exact congrArg some (this (e :: r) { c with l := c.l.take (a - c.base).toNat })
theorem appendAt_wn {c : CoreD} {nx mx : List Int} {f : Nat → Prop} (m : MsgD) (a : Int) (l : List Ent) (p : Bool) : (appendAt (wn c nx mx f) m a l p).1 = wn (appendAt c m a l p).1 nx mx f ∧ (appendAt (wn c nx mx f) m a l p).2 = (appendAt c m a l p).2 := by
  unfold appendAt
  rw [show fitD (wn c nx mx f) a m.b p = fitD c a m.b p from rfl, putsD_wn]
  by_cases e : fitD c a m.b p = true
  · rw [if_pos e, if_pos e]
    cases putsD c a l with
    | none => exact ⟨rfl, rfl⟩
    | some c' => exact ⟨rfl, rfl⟩
  · rw [if_neg e, if_neg e]
    exact ⟨rfl, rfl⟩
theorem appendD_wn {c : CoreD} {nx mx : List Int} {f : Nat → Prop} (m : MsgD) : (appendD (wn c nx mx f) m).1 = wn (appendD c m).1 nx mx f ∧ (appendD (wn c nx mx f) m).2 = (appendD c m).2 := by
  unfold appendD
  by_cases e : c.base ≤ m.a
  · rw [if_pos e, if_pos (show (wn c nx mx f).base ≤ m.a from e)]
    exact appendAt_wn m _ _ _
  · rw [if_neg e, if_neg (show ¬ (wn c nx mx f).base ≤ m.a from e)]
    by_cases e2 : c.base - m.a < m.entries.length
    · rw [if_pos e2, if_pos (show (wn c nx mx f).base - m.a < m.entries.length from e2)]
      exact appendAt_wn m _ _ _
    · rw [if_neg e2, if_neg (show ¬ (wn c nx mx f).base - m.a < m.entries.length from e2)]
      exact ⟨rfl, rfl⟩
theorem takesD_wn {c : CoreD} {nx mx : List Int} {f : Nat → Prop} (m : MsgD) : (takesD (wn c nx mx f) m).1 = wn (takesD c m).1 nx mx f ∧ (takesD (wn c nx mx f) m).2 = (takesD c m).2 := by
  by_cases h : m.a ≤ c.commit
  · rw [takesD_no h, takesD_no (c := wn c nx mx f) h]
    exact ⟨rfl, rfl⟩
  · by_cases hf : (atD c m.a).2 = true ∧ (atD c m.a).1 = m.b
    · rw [takesD_fit h hf, takesD_fit (c := wn c nx mx f) h hf]
      exact ⟨rfl, rfl⟩
    · rw [takesD_new h hf, takesD_new (c := wn c nx mx f) h hf]
      exact ⟨rfl, rfl⟩
theorem stepD_wn {c : CoreD} {nx mx : List Int} {f : Nat → Prop} (m : MsgD) : stepD (wn c nx mx f) m = wn (stepD c m) nx mx f := by
  unfold stepD
  by_cases e : c.term < m.term
  · rw [if_pos e, if_pos (show (wn c nx mx f).term < m.term from e)]
    rfl
  · rw [if_neg e, if_neg (show ¬ (wn c nx mx f).term < m.term from e)]
theorem askedD_wn {c : CoreD} {nx mx : List Int} {f : Nat → Prop} (m : MsgD) : (askedD (wn c nx mx f) m).1 = wn (askedD c m).1 nx mx f ∧ (askedD (wn c nx mx f) m).2 = (askedD c m).2 := by
  unfold askedD askedC
  rw [show askedOk (wn c nx mx f) m = askedOk c m from rfl]
  cases askedOk c m <;> exact ⟨rfl, rfl⟩
theorem haveD_wn {c : CoreD} {nx mx : List Int} {f : Nat → Prop} (i : Int) : ∀ k : Nat, (∀ j, 1 ≤ j → j ≤ k → mx.getD j 0 = c.matc.getD j 0) → haveD (wn c nx mx f) i k = haveD c i k
  | 0, _ => rfl
  | k + 1, h => by
    show haveD (wn c nx mx f) i k + (if ((k + 1 : Nat) : Int) ≠ c.id ∧ i ≤ mx.getD (k + 1) 0 then 1 else 0) = haveD c i k + _
    rw [haveD_wn i k (fun j h1 h2 => h j h1 (by omega)), h (k + 1) (by omega) (Nat.le_refl _)]
theorem agreesTo_wn {c : CoreD} {nx mx : List Int} {f : Nat → Prop} (h : Agr c.conf.nodes.toNat c.matc mx) : ∀ k : Nat, agreesTo (wn c nx mx f) k = agreesTo c k
  | 0 => rfl
  | k + 1 => by
    show (if (atD c (c.commit + (k + 1 : Nat))).1 = c.term ∧ c.conf.nodes / 2 < haveD (wn c nx mx f) (c.commit + (k + 1 : Nat)) c.conf.nodes.toNat then c.commit + (k + 1 : Nat) else agreesTo (wn c nx mx f) k) = _
    rw [haveD_wn _ _ h.2, agreesTo_wn h k]
    rfl
theorem agreesD_wn {c : CoreD} {nx mx : List Int} {f : Nat → Prop} (h : Agr c.conf.nodes.toNat c.matc mx) : agreesD (wn c nx mx f) = wn (agreesD c) nx mx f := by
  unfold agreesD
  rw [show (lastD (wn c nx mx f) - (wn c nx mx f).commit).toNat = (lastD c - c.commit).toNat from rfl, agreesTo_wn h]
  rfl

theorem appendedD_wn {c : CoreD} {nx mx : List Int} {f : Nat → Prop} (m : MsgD) (h1 : Agr c.conf.nodes.toNat c.next nx) (h2 : Agr c.conf.nodes.toNat c.matc mx) (hf : 1 ≤ m.frm ∧ m.frm ≤ c.conf.nodes) : Kin (appendedD c m).1 (appendedD (wn c nx mx f) m).1 ∧ (appendedD (wn c nx mx f) m).2 = (appendedD c m).2 := by
  have hx := h1.2 m.frm.toNat (by omega) (by omega)
  have hy := h2.2 m.frm.toNat (by omega) (by omega)
  by_cases e : m.term ≠ c.term ∨ c.role ≠ 2 ∨ (m.ok = true ∧ lastD c < m.a)
  · rw [appendedD_no e, appendedD_no (c := wn c nx mx f) e]
    exact ⟨⟨nx, mx, f, rfl, h1, h2⟩, rfl⟩
  · by_cases e2 : m.ok = false
    · have a1 : appendedD c m = (appNo c m, [sendD (appNo c m) m.frm]) := by unfold appendedD; rw [if_neg e, if_pos e2]
      have a2 : appendedD (wn c nx mx f) m = (appNo (wn c nx mx f) m, [sendD (appNo (wn c nx mx f) m) m.frm]) := by
        unfold appendedD
        rw [if_neg (show ¬ (m.term ≠ (wn c nx mx f).term ∨ (wn c nx mx f).role ≠ 2 ∨ (m.ok = true ∧ lastD (wn c nx mx f) < m.a)) from e), if_pos e2]
      obtain ⟨V, hV⟩ : ∃ V, max (c.matc.getD m.frm.toNat 0 + 1) (if m.a < c.next.getD m.frm.toNat 0 - 1 - 1 then m.a + 1 else c.next.getD m.frm.toNat 0 - 1) = V := ⟨_, rfl⟩
      have b1 : appNo c m = { c with next := c.next.set m.frm.toNat V } := by unfold appNo; rw [hV]
      have b2 : appNo (wn c nx mx f) m = wn { c with next := c.next.set m.frm.toNat V } (nx.set m.frm.toNat V) mx f := by
        show ({ wn c nx mx f with next := nx.set m.frm.toNat (max (mx.getD m.frm.toNat 0 + 1) (if m.a < nx.getD m.frm.toNat 0 - 1 - 1 then m.a + 1 else nx.getD m.frm.toNat 0 - 1)) } : CoreD) = _
        rw [hx, hy, hV]
        rfl
      have h3 : Agr c.conf.nodes.toNat (c.next.set m.frm.toNat V) (nx.set m.frm.toNat V) := h1.set _ _
      rw [a1, a2, b1, b2]
      refine ⟨⟨_, _, _, rfl, h3, h2⟩, ?_⟩
      show [_] = [_]
      rw [sendD_wn (h3.2 m.frm.toNat (by omega) (by omega))]
    · have a1 : appendedD c m = (agreesD (appYes c m), []) := by unfold appendedD; rw [if_neg e, if_neg e2]
      have a2 : appendedD (wn c nx mx f) m = (agreesD (appYes (wn c nx mx f) m), []) := by
        unfold appendedD
        rw [if_neg (show ¬ (m.term ≠ (wn c nx mx f).term ∨ (wn c nx mx f).role ≠ 2 ∨ (m.ok = true ∧ lastD (wn c nx mx f) < m.a)) from e), if_neg e2]
      obtain ⟨V, hV⟩ : ∃ V, max (c.matc.getD m.frm.toNat 0) m.a = V := ⟨_, rfl⟩
      have h3 : Agr c.conf.nodes.toNat (c.matc.set m.frm.toNat V) (mx.set m.frm.toNat V) := h2.set _ _
      obtain ⟨U, hU⟩ : ∃ U, max (c.next.getD m.frm.toNat 0) ((c.matc.set m.frm.toNat V).getD m.frm.toNat 0 + 1) = U := ⟨_, rfl⟩
      have h4 : Agr c.conf.nodes.toNat (c.next.set m.frm.toNat U) (nx.set m.frm.toNat U) := h1.set _ _
      have b1 : appYes c m = { c with matc := c.matc.set m.frm.toNat V, next := c.next.set m.frm.toNat U } := by
        unfold appYes
        show ({ appYes0 c m with next := c.next.set m.frm.toNat (max (c.next.getD m.frm.toNat 0) ((c.matc.set m.frm.toNat (max (c.matc.getD m.frm.toNat 0) m.a)).getD m.frm.toNat 0 + 1)) } : CoreD) = _
        unfold appYes0
        rw [hV, hU]
      have b2 : appYes (wn c nx mx f) m = wn { c with matc := c.matc.set m.frm.toNat V, next := c.next.set m.frm.toNat U } (nx.set m.frm.toNat U) (mx.set m.frm.toNat V) f := by
        unfold appYes
        show ({ appYes0 (wn c nx mx f) m with next := nx.set m.frm.toNat (max (nx.getD m.frm.toNat 0) ((mx.set m.frm.toNat (max (mx.getD m.frm.toNat 0) m.a)).getD m.frm.toNat 0 + 1)) } : CoreD) = _
        unfold appYes0
        show ({ wn c nx mx f with matc := mx.set m.frm.toNat (max (mx.getD m.frm.toNat 0) m.a), next := nx.set m.frm.toNat (max (nx.getD m.frm.toNat 0) ((mx.set m.frm.toNat (max (mx.getD m.frm.toNat 0) m.a)).getD m.frm.toNat 0 + 1)) } : CoreD) = _
        rw [hx, hy, hV, h3.2 m.frm.toNat (by omega) (by omega), hU]
        rfl
      rw [a1, a2, b1, b2, agreesD_wn (c := { c with matc := c.matc.set m.frm.toNat V, next := c.next.set m.frm.toNat U }) h3]
      exact ⟨⟨_, _, _, rfl, h4, h3⟩, rfl⟩

/-- All votes stand at the places 1 to k: they are as many. -/
theorem count_rcount {l : List Bool} {n : Nat} (hn : n < l.length) (h : ∀ i, l.getD i false = true → 1 ≤ i ∧ i ≤ n) : l.count true = rcount l n := by
  have h1 : ∀ k, k < l.length → (l.take (k + 1)).count true = rcount l k := by
    intro k
    induction k with
    | zero =>
      intro hk
      have hx : l[0]? = some l[0] := List.getElem?_eq_getElem hk
      rw [count_take hx]
      have : l[0] = false := by
        cases e : l[0] with
        | false => rfl
        | true =>
          have := h 0 (by rw [List.getD_eq_getElem?_getD, hx, e]; rfl)
          omega
      rw [this]
      simp [rcount]
    | succ k ih =>
      intro hk
      have hx : l[k + 1]? = some l[k + 1] := List.getElem?_eq_getElem hk
      rw [count_take hx, ih (by omega), rcount, List.getD_eq_getElem?_getD, hx]
      rfl
  rw [← h1 n hn]
  have h2 : (l.drop (n + 1)).count true = 0 := by
    rw [List.count_eq_zero]
    intro hm
    obtain ⟨j, hj⟩ := List.getElem?_of_mem hm
    rw [List.getElem?_drop] at hj
    have := h (n + 1 + j) (by rw [List.getD_eq_getElem?_getD, hj]; rfl)
    omega
  conv => lhs; rw [← List.take_append_drop (n + 1) l]
  rw [List.count_append, h2]
  omega
theorem rep_getD {i : Nat} (h : i < 8) (v : Int) : (List.replicate 8 v).getD i 0 = v := by
  rw [List.getD_eq_getElem?_getD, List.getElem?_replicate, if_pos h]
  rfl
theorem lead_wn {c : CoreD} {nx mx : List Int} {f : Nat → Prop} (h1 : nx.length = 8) (h2 : mx.length = 8) (h7 : c.conf.nodes.toNat ≤ 7) : Kin (leadD c) (rleadD (wn c nx mx f)) ∧ othersD (rleadD (wn c nx mx f)) (sendD (rleadD (wn c nx mx f))) = othersD (leadD c) (sendD (leadD c)) := by
  have a1 : Agr c.conf.nodes.toNat (List.replicate 8 (lastD c + 1)) (setTo nx (lastD c + 1) c.conf.nodes.toNat) :=
    ⟨by rw [setTo_len, h1]; rfl, fun i g1 g2 => by rw [setTo_get g1 g2 (by omega), rep_getD (by omega)]⟩
  have a2 : Agr c.conf.nodes.toNat (List.replicate 8 0) (setTo mx 0 c.conf.nodes.toNat) :=
    ⟨by rw [setTo_len, h2]; rfl, fun i g1 g2 => by rw [setTo_get g1 g2 (by omega), rep_getD (by omega)]⟩
  unfold leadD rleadD
  by_cases e : c.l.length < 5096
  · rw [if_pos e, if_pos (show (wn c nx mx f).l.length < 5096 from e)]
    refine ⟨⟨_, _, _, rfl, a1, a2⟩, ?_⟩
    exact others_wn (c := putD (lead0 c) { term := c.term, cmd := false, data := [] }) a1
  · rw [if_neg e, if_neg (show ¬ (wn c nx mx f).l.length < 5096 from e)]
    refine ⟨⟨_, _, _, rfl, a1, a2⟩, ?_⟩
    exact others_wn (c := lead0 c) a1
theorem set_true_get {l : List Bool} {i j : Nat} (h : (l.set i true).getD j false = true) : l.getD j false = true ∨ j = i := by
  by_cases e : i = j
  · exact .inr e.symm
  · left
    rw [List.getD_eq_getElem?_getD, List.getElem?_set_ne e, ← List.getD_eq_getElem?_getD] at h
    exact h
theorem votes_votedC {c : CoreD} {m : MsgD} (h : VotesOk c) (hf : 1 ≤ m.frm ∧ m.frm ≤ c.conf.nodes) : VotesOk (votedC c m) := by
  intro i hi
  rcases set_true_get hi with h1 | h1
  · exact h i h1
  · have : i ≤ c.conf.nodes.toNat := by omega
    exact ⟨by omega, this⟩
theorem votedD_wn {c : CoreD} {nx mx : List Int} {f : Nat → Prop} (m : MsgD) (ok : CoreOk c) (hv : VotesOk c) (h1 : Agr c.conf.nodes.toNat c.next nx) (h2 : Agr c.conf.nodes.toNat c.matc mx) (hf : 1 ≤ m.frm ∧ m.frm ≤ c.conf.nodes) : Kin (votedD c m).1 (rvotedD (wn c nx mx f) m).1 ∧ (rvotedD (wn c nx mx f) m).2 = (votedD c m).2 := by
  have hm := ((ConfD.may_iff c.conf).1 ok.may).1
  by_cases e : m.term ≠ c.term ∨ c.role ≠ 1 ∨ m.ok = false
  · rw [votedD_no e, rvotedD_no (c := wn c nx mx f) e]
    exact ⟨⟨nx, mx, f, rfl, h1, h2⟩, rfl⟩
  · have hcnt : (votedC c m).votes.count true = rcount (votedC c m).votes c.conf.nodes.toNat := by
      refine count_rcount (by show c.conf.nodes.toNat < (c.votes.set m.frm.toNat true).length; rw [List.length_set, ok.votes]; omega) (votes_votedC hv hf)
    unfold votedD rvotedD
    rw [if_neg e, if_neg (show ¬ (m.term ≠ (wn c nx mx f).term ∨ (wn c nx mx f).role ≠ 1 ∨ m.ok = false) from e), hcnt]
    show Kin (if _ then _ else _ : CoreD × List MsgD).1 (if 2 * (rcount (votedC c m).votes c.conf.nodes.toNat : Int) ≤ c.conf.nodes then (wn (votedC c m) nx mx f, []) else (rleadD (wn (votedC c m) nx mx f), othersD (rleadD (wn (votedC c m) nx mx f)) (sendD (rleadD (wn (votedC c m) nx mx f)))) : CoreD × List MsgD).1 ∧ (if 2 * (rcount (votedC c m).votes c.conf.nodes.toNat : Int) ≤ c.conf.nodes then (wn (votedC c m) nx mx f, []) else (rleadD (wn (votedC c m) nx mx f), othersD (rleadD (wn (votedC c m) nx mx f)) (sendD (rleadD (wn (votedC c m) nx mx f)))) : CoreD × List MsgD).2 = _
    by_cases e2 : (rcount (votedC c m).votes c.conf.nodes.toNat : Int) ≤ c.conf.nodes / 2
    · rw [if_pos e2, if_pos (by omega)]
      exact ⟨⟨nx, mx, f, rfl, h1, h2⟩, rfl⟩
    · rw [if_neg e2, if_neg (by omega)]
      exact lead_wn (c := votedC c m) (by rw [h1.1]; exact ok.next) (by rw [h2.1]; exact ok.matc) (by show c.conf.nodes.toNat ≤ 7; omega)

theorem fold_fields : ∀ (l : List Ent) (c : CoreD), (l.foldl putD c).conf = c.conf ∧ (l.foldl putD c).next = c.next ∧ (l.foldl putD c).matc = c.matc ∧ (l.foldl putD c).votes = c.votes ∧ (l.foldl putD c).patience = c.patience ∧ (l.foldl putD c).ban = c.ban
  | [], c => ⟨rfl, rfl, rfl, rfl, rfl, rfl⟩
  | e :: l, c => fold_fields l (putD c e)
theorem puts_fields : ∀ (l : List Ent) (c : CoreD) (a : Int) (c' : CoreD), putsD c a l = some c' → c'.conf = c.conf ∧ c'.next = c.next ∧ c'.matc = c.matc ∧ c'.votes = c.votes ∧ c'.patience = c.patience ∧ c'.ban = c.ban
  | [], c, a, c', h => by
    cases h
    exact ⟨rfl, rfl, rfl, rfl, rfl, rfl⟩
  | e :: r, c, a, c', h => by
    by_cases hm : (atD c (a + 1)).2 = true ∧ (atD c (a + 1)).1 = e.term
    · rw [puts_match hm] at h
      exact puts_fields r c (a + 1) c' h
    · by_cases hb : a + 1 ≤ c.commit ∨ 5096 < a - c.base + ((r.length : Int) + 1)
      · rw [puts_none hm hb] at h
        cases h
      · rw [puts_some hm hb] at h
        cases h
        exact fold_fields (e :: r) { c with l := c.l.take (a - c.base).toNat }
theorem appendAt_fields (c : CoreD) (m : MsgD) (a : Int) (l : List Ent) (p : Bool) : (appendAt c m a l p).1.conf = c.conf ∧ (appendAt c m a l p).1.next = c.next ∧ (appendAt c m a l p).1.matc = c.matc ∧ (appendAt c m a l p).1.votes = c.votes ∧ (appendAt c m a l p).1.patience = c.patience ∧ (appendAt c m a l p).1.ban = c.ban := by
  unfold appendAt
  split
  · cases h : putsD c a l with
    | none => exact ⟨rfl, rfl, rfl, rfl, rfl, rfl⟩
    | some c' => exact puts_fields l c a c' h
  · exact ⟨rfl, rfl, rfl, rfl, rfl, rfl⟩
theorem appendD_fields (c : CoreD) (m : MsgD) : (appendD c m).1.conf = c.conf ∧ (appendD c m).1.next = c.next ∧ (appendD c m).1.matc = c.matc ∧ (appendD c m).1.votes = c.votes ∧ (appendD c m).1.patience = c.patience ∧ (appendD c m).1.ban = c.ban := by
  unfold appendD
  split
  · exact appendAt_fields _ _ _ _ _
  · split
    · exact appendAt_fields _ _ _ _ _
    · exact ⟨rfl, rfl, rfl, rfl, rfl, rfl⟩
theorem takesD_fields (c : CoreD) (m : MsgD) : (takesD c m).1.conf = c.conf ∧ (takesD c m).1.next = c.next ∧ (takesD c m).1.matc = c.matc ∧ (takesD c m).1.votes = c.votes ∧ (takesD c m).1.patience = c.patience ∧ (takesD c m).1.ban = c.ban := by
  by_cases h : m.a ≤ c.commit
  · rw [takesD_no h]; exact ⟨rfl, rfl, rfl, rfl, rfl, rfl⟩
  · by_cases hf : (atD c m.a).2 = true ∧ (atD c m.a).1 = m.b
    · rw [takesD_fit h hf]; exact ⟨rfl, rfl, rfl, rfl, rfl, rfl⟩
    · rw [takesD_new h hf]; exact ⟨rfl, rfl, rfl, rfl, rfl, rfl⟩

theorem kin_hear {c r : CoreD} (h : Kin c r) (ok : CoreOk c) (hv : VotesOk c) (m : MsgD) : Kin (hearD c m).1 (rhearD r m).1 ∧ (rhearD r m).2 = (hearD c m).2 := by
  obtain ⟨nx, mx, f, rfl, h1, h2⟩ := h
  unfold hearD rhearD
  rw [show wrongD (wn c nx mx f) m = wrongD c m from rfl]
  cases hw : wrongD c m with
  | true => exact ⟨⟨nx, mx, f, rfl, h1, h2⟩, rfl⟩
  | false =>
    show Kin (heardD (stepD c m) m).1 (rheardD (stepD (wn c nx mx f) m) m).1 ∧ (rheardD (stepD (wn c nx mx f) m) m).2 = (heardD (stepD c m) m).2
    have hz := hw
    unfold wrongD at hz
    simp only [Bool.or_eq_false_iff] at hz
    obtain ⟨⟨k1, k5⟩, _, hf, _⟩ := wrongHead_no hz.1
    have oks := stepD_ok ok hw
    have hconf : (stepD c m).conf = c.conf := by unfold stepD; split <;> rfl
    have hnx : (stepD c m).next = c.next := by unfold stepD; split <;> rfl
    have hmx : (stepD c m).matc = c.matc := by unfold stepD; split <;> rfl
    have hvt : (stepD c m).votes = c.votes := by unfold stepD; split <;> rfl
    rw [stepD_wn]
    obtain ⟨D, hD⟩ : ∃ D, stepD c m = D := ⟨_, rfl⟩
    rw [hD] at oks hconf hnx hmx hvt ⊢
    have h1' : Agr D.conf.nodes.toNat D.next nx := by rw [hconf, hnx]; exact h1
    have h2' : Agr D.conf.nodes.toNat D.matc mx := by rw [hconf, hmx]; exact h2
    have hf' : 1 ≤ m.frm ∧ m.frm ≤ D.conf.nodes := by rw [hconf]; exact hf
    have hv' : VotesOk D := by
      intro i hi
      rw [hvt] at hi
      rw [hconf]
      exact hv i hi
    have wk : ∀ {a b : CoreD × List MsgD}, b.1 = wn a.1 nx mx f ∧ b.2 = a.2 → a.1.conf = D.conf → a.1.next = D.next → a.1.matc = D.matc → Kin a.1 b.1 ∧ b.2 = a.2 := fun hb g1 g2 g3 => ⟨⟨nx, mx, f, hb.1, by rw [g1, g2]; exact h1', by rw [g1, g3]; exact h2'⟩, hb.2⟩
    unfold heardD rheardD
    by_cases e1 : m.kind = 1
    · rw [if_pos e1, if_pos e1]
      refine wk (askedD_wn m) ?_ ?_ ?_ <;>
      · unfold askedD askedC
        cases askedOk D m <;> rfl
    · rw [if_neg e1, if_neg e1]
      by_cases e2 : m.kind = 2
      · rw [if_pos e2, if_pos e2]
        exact votedD_wn m oks hv' h1' h2' hf'
      · rw [if_neg e2, if_neg e2]
        by_cases e4 : m.kind = 4
        · rw [if_pos e4, if_neg (show ¬ m.kind = 3 by omega), if_pos e4]
          exact appendedD_wn m h1' h2' hf'
        · rw [if_neg e4]
          by_cases e3 : m.kind = 3
          · rw [if_pos e3]
            unfold takeD
            by_cases ht : m.term < D.term
            · rw [if_pos ht, if_pos (show m.term < (wn D nx mx f).term from ht)]
              exact wk ⟨rfl, rfl⟩ rfl rfl rfl
            · rw [if_neg ht, if_neg (show ¬ m.term < (wn D nx mx f).term from ht)]
              have hsn : snapNo m = false := by unfold snapNo; rw [e3]; rfl
              by_cases hr : D.role = 2
              · rw [if_pos (.inl hr), if_pos (show (wn D nx mx f).role = 2 from hr)]
                exact wk ⟨rfl, rfl⟩ rfl rfl rfl
              · rw [if_neg (by rw [hsn]; simp [hr]), if_neg (show ¬ (wn D nx mx f).role = 2 from hr), if_neg (show ¬ m.kind = 5 by omega)]
                have g := fun c => appendD_fields c m
                exact wk (appendD_wn (c := followD D m) m) (g (followD D m)).1 (g (followD D m)).2.1 (g (followD D m)).2.2.1
          · have e5 : m.kind = 5 := by omega
            rw [if_neg e3, if_neg e4]
            unfold rsnapD
            by_cases ht : m.term < D.term
            · rw [if_pos ht, if_pos (show m.term < (wn D nx mx f).term from ht)]
              exact wk ⟨rfl, rfl⟩ rfl rfl rfl
            · rw [if_neg ht, if_neg (show ¬ m.term < (wn D nx mx f).term from ht)]
              have hsn : snapNo m = rsnapNo m := by unfold snapNo rsnapNo; rw [e5]; rfl
              rw [hsn]
              by_cases hr : D.role = 2 ∨ rsnapNo m = true
              · rw [if_pos hr, if_pos (show (wn D nx mx f).role = 2 ∨ rsnapNo m = true from hr)]
                exact wk ⟨rfl, rfl⟩ rfl rfl rfl
              · rw [if_neg hr, if_neg (show ¬ ((wn D nx mx f).role = 2 ∨ rsnapNo m = true) from hr), if_pos e5]
                have g := fun c => takesD_fields c m
                exact wk (takesD_wn (c := followD D m) m) (g (followD D m)).1 (g (followD D m)).2.1 (g (followD D m)).2.2.1

/-! Votes, patience, the length of the log: what a call leaves of them. -/
theorem lead_fields (c : CoreD) : (leadD c).conf = c.conf ∧ (leadD c).votes = c.votes ∧ (leadD c).patience = 0 ∧ (leadD c).ban = c.ban := by
  unfold leadD
  split <;> exact ⟨rfl, rfl, rfl, rfl⟩
theorem hear_fields {c : CoreD} (m : MsgD) (hv : VotesOk c) (hp : 0 ≤ c.patience) : VotesOk (hearD c m).1 ∧ (hearD c m).1.conf = c.conf ∧ 0 ≤ (hearD c m).1.patience ∧ (hearD c m).1.patience ≤ c.patience ∧ (hearD c m).1.ban = c.ban := by
  unfold hearD
  cases hw : wrongD c m with
  | true => exact ⟨hv, rfl, hp, Int.le_refl _, rfl⟩
  | false =>
    show VotesOk (heardD (stepD c m) m).1 ∧ (heardD (stepD c m) m).1.conf = c.conf ∧ 0 ≤ (heardD (stepD c m) m).1.patience ∧ (heardD (stepD c m) m).1.patience ≤ c.patience ∧ (heardD (stepD c m) m).1.ban = c.ban
    have hz := hw
    unfold wrongD at hz
    simp only [Bool.or_eq_false_iff] at hz
    obtain ⟨_, _, hf, _⟩ := wrongHead_no hz.1
    have hconf : (stepD c m).conf = c.conf := by unfold stepD; split <;> rfl
    have hvt : (stepD c m).votes = c.votes := by unfold stepD; split <;> rfl
    have hpt : (stepD c m).patience = c.patience := by unfold stepD; split <;> rfl
    have hbn : (stepD c m).ban = c.ban := by unfold stepD; split <;> rfl
    obtain ⟨D, hD⟩ : ∃ D, stepD c m = D := ⟨_, rfl⟩
    rw [hD] at hconf hvt hpt hbn ⊢
    have hv' : VotesOk D := by
      intro i hi
      rw [hvt] at hi
      rw [hconf]
      exact hv i hi
    have hf' : 1 ≤ m.frm ∧ m.frm ≤ D.conf.nodes := by rw [hconf]; exact hf
    have fin : ∀ x : CoreD, x.votes = D.votes → x.conf = D.conf → (x.patience = 0 ∨ x.patience = D.patience) → x.ban = D.ban → VotesOk x ∧ x.conf = c.conf ∧ 0 ≤ x.patience ∧ x.patience ≤ c.patience ∧ x.ban = c.ban := fun x g1 g2 g3 g4 => by
      refine ⟨?_, by rw [g2, hconf], ?_, ?_, by rw [g4, hbn]⟩
      · intro i hi
        rw [g1] at hi
        rw [g2]
        exact hv' i hi
      · rcases g3 with g3 | g3 <;> omega
      · rcases g3 with g3 | g3 <;> omega
    unfold heardD
    split
    · unfold askedD askedC
      cases askedOk D m
      · exact fin _ rfl rfl (.inr rfl) rfl
      · exact fin _ rfl rfl (.inl rfl) rfl
    · split
      · unfold votedD
        split
        · exact fin _ rfl rfl (.inr rfl) rfl
        · have hvc := votes_votedC hv' hf'
          split
          · exact ⟨hvc, hconf, by show 0 ≤ D.patience; omega, by show D.patience ≤ _; omega, hbn⟩
          · obtain ⟨l1, l2, l3, l4⟩ := lead_fields (votedC D m)
            refine ⟨?_, by rw [l1]; exact hconf, by show 0 ≤ (leadD (votedC D m)).patience; omega, by show (leadD (votedC D m)).patience ≤ c.patience; omega, by rw [l4]; exact hbn⟩
            intro i hi
            rw [l2] at hi
            rw [l1]
            exact hvc i hi
      · split
        · unfold appendedD
          split
          · exact fin _ rfl rfl (.inr rfl) rfl
          · split
            · exact fin _ rfl rfl (.inr rfl) rfl
            · exact fin _ rfl rfl (.inr rfl) rfl
        · split
          · exact fin _ rfl rfl (.inr rfl) rfl
          · split
            · exact fin _ rfl rfl (.inr rfl) rfl
            · split
              · obtain ⟨g1, _, _, g4, g5, g6⟩ := takesD_fields (followD D m) m
                exact fin _ g4 g1 (.inl g5) g6
              · obtain ⟨g1, _, _, g4, g5, g6⟩ := appendD_fields (followD D m) m
                exact fin _ g4 g1 (.inl g5) g6

end Go.Proofs.Ytpppoajnbhipeaa

/- Ask: a command behind its log. -/
namespace Go.Proofs.Ytpppoajnbhipeaa
open Go Go.RowKit

/-- How Ask ends. -/
def AskPost (B n : Nat) (lv : Value) (r : CoreD × Int × List MsgD × Int) (w : World) (e : Ending) (w' : World) : Prop :=
  ∃ a q lv' sv', e = .returned (.tuple #[.int .i64 r.2.1, .slice a r.2.2.1.length q, .int .i64 r.2.2.2]) ∧ CoreAt w' B n r.1 lv' sv' ∧ MsgsAt w w' n lv' (.slice a r.2.2.1.length q) r.2.2.1 ∧ Keeps (n :: ownB lv) w w' ∧ ∀ b ∈ ownB lv', b ∈ ownB lv ∨ w.heap.size ≤ b

theorem askD_no {c : CoreD} {d : List UInt8} (h : c.role ≠ 2) : askD c d = (c, 0, [], 24) := by unfold askD; rw [if_pos h]
theorem askD_full {c : CoreD} {d : List UInt8} (h : c.role = 2) (h2 : 4096 ≤ c.l.length) : askD c d = (c, 0, [], 2) := by unfold askD; rw [if_neg (by simpa using h), if_pos h2]
theorem askD_yes {c : CoreD} {d : List UInt8} (h : c.role = 2) (h2 : c.l.length < 4096) : askD c d = (askC c d, lastD (askC c d), othersD (askC c d) (sendD (askC c d)), 0) := by unfold askD; rw [if_neg (by simpa using h), if_neg (by omega)]

set_option maxRecDepth 100000 in
set_option maxHeartbeats 3200000 in
theorem ask_any (w : World) (B n : Nat) (c : CoreD) (lv sv : Value) (data : List UInt8) (da : Option Addr) (dc : Nat) (P : Nat → Prop) (h : CoreAt w B n c lv sv) (hd : BytesAt w P (.slice da data.length dc) data) (hdl : data.length ≤ 1000000) (hll : lastD c + 1 ≤ 2199023255552) :
    Calls Try.prog 39 #[.pointer (some ⟨n, 0, none⟩), .slice da data.length dc] w (AskPost B n lv (askD c data) w) := by
  have h10 : w.cell? ⟨n, 10, none⟩ = some (.int .i64 c.term) := h.blk.cell 10
  have h12 : w.cell? ⟨n, 12, none⟩ = some (.int .i64 c.role) := h.blk.cell 12
  obtain ⟨la, lq, hlv⟩ := h.form
  have h17 : w.cell? ⟨n, 17, none⟩ = some (.slice la c.l.length lq) := (h.blk.cell 17).trans (by rw [hlv]; rfl)
  have hlt := h.blk.lt
  have H := hid h
  have HDD := hid hd
  have HLL := hid hll
  clear hd hll hlv
  by_cases hr : c.role = 2
  · have g1 : (c.role != 2) = false := by simpa using hr
    by_cases hf : 4096 ≤ c.l.length
    · have HR := hid (askD_full (d := data) hr hf)
      have hf2 : (4096 : Int) ≤ (c.l.length : Int) := by omega
      clear h hr hf
      go_enter Try.func39, Try.ntmps39
      go_wp2_with fail
      refine bodyPost_ret (v := .tuple #[.int .i64 0, .slice none 0 0, .int .i64 2]) (by simp [results, Try.results39, go_sem]) rfl ?_
      rw [HR.out]
      exact ⟨none, 0, lv, sv, rfl, H.out, MsgsAt.nil _ _ _ _, Keeps.refl _ _, fun _ h => .inl h⟩
    · have HR := hid (askD_yes (d := data) hr (by omega))
      have hf2 : (c.l.length : Int) < 4096 := by omega
      have HLN : Hid (c.l.length < 5096) := by show _ < _; omega
      clear h hr hf
      go_enter Try.func39, Try.ntmps39
      go_wp2_with fail
      refine Plan.wp_region_plan (fun wx => wx.cell? ⟨n, 10, none⟩ = some (.int .i64 c.term)) 9 [(true, 0), (true, 1), (true, 2), (true, 3), (true, 4), (true, 5), (false, 6), (true, 7), (false, 8)] (by kernel_rfl) (by as_aux_lemma => kernel_rfl) (by kernel_rfl) (fun _ _ _ _ _ h => h) ?_ (fun hS => ?_)
      (· go_simp)
      simp only [Plan.pick, List.append_eq, List.cons_append, List.nil_append, Plan.g1, Plan.g2, Option.getD_some, List.drop_succ_cons, List.drop_zero]
      iterate 6 (first | refine Plan.tA ?_ | refine Plan.tY ?_ | refine Plan.pN ?_ | refine Plan.pU ?_ | fail)
      refine Plan.step ?_
      go_wp2_with fail
      refine (listB_any (.slice da data.length dc) data _ (HDD.out.k (by exact Keeps.K)).1 (by omega)).mono ?_
      rintro e w2 ⟨a2, q2, rfl, o2, k2⟩
      have K2 : Hid (Keeps [] w w2) := Keeps.trans (by exact Keeps.K) k2 (fun _ _ h => h)
      have C2 : Hid (CoreAt w2 B n c lv sv) := H.out.k K2.out
      have D2 : Hid (BytesAt w2 (fun b => Off n lv b ∧ ¬ c.ban b) (.slice a2 data.length q2) data) := BytesAt.ofOwn o2 rfl (fun b hb _ => by
        have hb : w.heap.size ≤ b := by simpa using hb
        refine ⟨⟨fun h => by have := (H.out.lt n (by simp)).2; omega, fun h => by have := (H.out.lt b (List.mem_cons_of_mem _ h)).2; omega⟩, fun h => by have := H.out.old b h; omega⟩)
      have x10 := K2.out.cellSome h10 (by simp)
      clear o2 k2 h10 h12 h17
      go_wp2_with fail
      refine ⟨?_, ?_⟩
      (· go_simp)
      iterate 1 (first | refine Plan.tA ?_ | refine Plan.tY ?_ | refine Plan.pN ?_ | refine Plan.pU ?_ | fail)
      refine Plan.step ?_
      go_wp2_with fail
      refine (put_any _ B n c lv sv { term := c.term, cmd := true, data := data } a2 q2 (C2.out.k (by exact Keeps.K)) (D2.out.k (by exact Keeps.K)) HLN.out HLL.out C2.out.ok.term hdl).mono ?_
      rintro e w3 ⟨lv', rfl, hc3, hk3, hv3⟩
      have C3 : Hid (CoreAt w3 B n (askC c data) lv' sv) := hc3
      have y10 : w3.cell? ⟨n, 10, none⟩ = some (.int .i64 c.term) := hc3.blk.cell 10
      have K3 : Hid (Keeps (n :: ownB lv) w w3) := (Keeps.mono (F := []) (K2.out.trans (by exact Keeps.K) (fun _ _ h => h)) (fun _ _ h => by cases h)).trans hk3 (fun _ _ h => h)
      have V3 : Hid (∀ b ∈ ownB lv', b ∈ ownB lv ∨ w.heap.size ≤ b) := fun b hb => (hv3 b hb).imp (fun h => h) (fun h => Nat.le_trans K2.out.size (Nat.le_trans (Keeps.size (F := []) (by exact Keeps.K)) h))
      clear hc3 hk3 hv3
      go_wp2_with fail
      refine ⟨?_, ?_⟩
      (· go_simp)
      refine Plan.fin ?_
      go_wp2_with fail
      refine (cLast_any _ B n _ lv' sv C3.out).mono ?_
      rintro e w4 ⟨rfl, k4, rfl⟩
      go_wp2_with fail
      refine (others_send _ B n _ lv' sv (C3.out.k (by exact Keeps.K))).mono ?_
      rintro e w5 ⟨a5, q5, rfl, f5, k5⟩
      have HP : Hid (AskPost B n lv (askD c data) w (.returned (.tuple #[.int .i64 (lastD (askC c data)), .slice a5 (othersD (askC c data) (sendD (askC c data))).length q5, .int .i64 0])) w5) := by
        rw [HR.out]
        exact ⟨a5, q5, lv', sv, rfl, (C3.out.k (by exact Keeps.K)).k k5, MsgsAt.ofFresh (C3.out.k (by exact Keeps.K)) (Nat.le_trans K3.out.size (Keeps.size (F := []) (by exact Keeps.K))) f5, (K3.out.drewN _).trans k5 (fun _ _ h => by cases h), V3.out⟩
      clear f5 k5
      go_wp2_with fail
      exact bodyPost_ret (v := .tuple #[.int .i64 (lastD (askC c data)), .slice a5 (othersD (askC c data) (sendD (askC c data))).length q5, .int .i64 0]) (by simp [results, Try.results39, go_sem]) rfl HP.out
  · have g1 : (c.role != 2) = true := by simpa using hr
    have HR := hid (askD_no (d := data) hr)
    clear h hr
    go_enter Try.func39, Try.ntmps39
    go_wp2_with fail
    refine bodyPost_ret (v := .tuple #[.int .i64 0, .slice none 0 0, .int .i64 24]) (by simp [results, Try.results39, go_sem]) rfl ?_
    rw [HR.out]
    exact ⟨none, 0, lv, sv, rfl, H.out, MsgsAt.nil _ _ _ _, Keeps.refl _ _, fun _ h => .inl h⟩

end Go.Proofs.Ytpppoajnbhipeaa
