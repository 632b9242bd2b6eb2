/- CoreVotes, the plain law: in one term it votes for one alone. -/
import Derived.Test.YtpppoajnbhipeaaCoreI
namespace Go.Proofs.Ytpppoajnbhipeaa
open Go Go.RowKit

/-- What is kept of whom it voted for, by terms. -/
structure VotesInv (cf : ConfD) (bn : Nat → Prop) (c : CoreD) (who : List Int) : Prop where
  id : c.id = 1
  conf : c.conf = cf
  role : c.role = 0
  len : who.length = 64
  of : ∀ t : Nat, who.getD t 0 ≠ 0 → (t : Int) ≤ c.term ∧ ((t : Int) = c.term → c.vote = who.getD t 0)
  ban : c.ban = bn

def voteAsk (f tm a b : Int) : MsgD := { kind := 1, frm := f, to := 1, term := tm, a := a, b := b, c := 0, ok := false, entries := [], data := [] }
def voteTold (c : CoreD) (f : Int) (ok : Bool) : MsgD := { kind := 2, frm := c.id, to := f, term := c.term, a := 0, b := 0, c := 0, ok := ok, entries := [], data := [] }

theorem vote_right {cf : ConfD} {bn : Nat → Prop} {c : CoreD} {who : List Int} {f tm a b : Int} (hi : VotesInv cf bn c who) (hf : 2 ≤ f ∧ f ≤ cf.nodes) (ht : 1 ≤ tm ∧ tm ≤ 60) (ha : 0 ≤ a ∧ a ≤ 29) (hb : 0 ≤ b ∧ b ≤ 11) : wrongD c (voteAsk f tm a b) = false := by
  have h1 := hi.id
  have h2 := hi.conf
  simp [wrongD, wrongHead, voteAsk, inD, h1, h2, hf.1, hf.2, ht.1, ha.1, hb.1]
  refine ⟨⟨⟨⟨?_, ?_⟩, ?_⟩, ?_⟩, ?_⟩ <;> first | omega | exact decide_eq_true (by omega)

theorem vote_step {cf : ConfD} {bn : Nat → Prop} {c : CoreD} {who : List Int} {m : MsgD} (hi : VotesInv cf bn c who) : VotesInv cf bn (stepD c m) who ∧ (stepD c m).l = c.l ∧ (stepD c m).base = c.base ∧ (stepD c m).baseTerm = c.baseTerm ∧ m.term ≤ (stepD c m).term := by
  unfold stepD
  split
  · rename_i h
    exact ⟨⟨hi.id, hi.conf, rfl, hi.len, fun t h0 => ⟨by show (t : Int) ≤ m.term; have := (hi.of t h0).1; omega, fun h1 => by have h2 := (hi.of t h0).1; change (t : Int) = m.term at h1; omega⟩, hi.ban⟩, rfl, rfl, rfl, Int.le_refl _⟩
  · rename_i h
    exact ⟨hi, rfl, rfl, rfl, by omega⟩

theorem vote_heard {cf : ConfD} {bn : Nat → Prop} {c : CoreD} {who : List Int} {f tm a b : Int} (hi : VotesInv cf bn c who) (hf : 2 ≤ f ∧ f ≤ cf.nodes) (ht : 1 ≤ tm ∧ tm ≤ 60) (ha : 0 ≤ a ∧ a ≤ 29) (hb : 0 ≤ b ∧ b ≤ 11) :
    ∃ c' ok, hearD c (voteAsk f tm a b) = (c', [voteTold c' f ok]) ∧ tm ≤ c'.term ∧
      (ok = false → VotesInv cf bn c' who) ∧ (ok = true → c'.term = tm ∧ c'.vote = f ∧ (who.getD tm.toNat 0 = 0 ∨ who.getD tm.toNat 0 = f) ∧ VotesInv cf bn c' (who.set tm.toNat f) ∧ ¬ b < (atD c' (lastD c')).1 ∧ (b = (atD c' (lastD c')).1 → lastD c' ≤ a)) := by
  obtain ⟨h1, hl, hbs, hbt, hle⟩ := vote_step (m := voteAsk f tm a b) hi
  have hh : hearD c (voteAsk f tm a b) = askedD (stepD c (voteAsk f tm a b)) (voteAsk f tm a b) := by
    unfold hearD heardD
    rw [vote_right hi hf ht ha hb]
    simp [voteAsk]
  rw [hh]
  generalize stepD c (voteAsk f tm a b) = c1 at h1 hl hbs hbt hle
  change tm ≤ c1.term at hle
  cases ho : askedOk c1 (voteAsk f tm a b) with
  | false =>
    refine ⟨c1, false, ?_, hle, fun _ => h1, fun h => by cases h⟩
    unfold askedD askedC
    rw [ho]
    rfl
  | true =>
    have hd : askedC c1 (voteAsk f tm a b) = { risesD c1 c1.term f with patience := 0 } := by
      unfold askedC
      rw [ho]
      rfl
    refine ⟨{ risesD c1 c1.term f with patience := 0 }, true, ?_, hle, (fun h => by cases h), fun _ => ?_⟩
    · unfold askedD
      rw [hd, ho]
      rfl
    · simp only [askedOk, Bool.and_eq_true, Bool.or_eq_true, beq_iff_eq, decide_eq_true_eq] at ho
      obtain ⟨⟨⟨o1, o2⟩, o3⟩, o4⟩ := ho
      change tm = c1.term at o1
      change c1.vote = 0 ∨ c1.vote = f at o2
      change lastTerm c1 < b ∨ b = lastTerm c1 ∧ lastD c1 ≤ a at o4
      have e1 : (atD { risesD c1 c1.term f with patience := 0 } (lastD { risesD c1 c1.term f with patience := 0 })).1 = lastTerm c1 := rfl
      have e2 : lastD { risesD c1 c1.term f with patience := 0 } = lastD c1 := rfl
      have hw : who.getD tm.toNat 0 = 0 ∨ who.getD tm.toNat 0 = f := by
        by_cases h0 : who.getD tm.toNat 0 = 0
        · exact .inl h0
        · have h2 := (h1.of tm.toNat h0).2 (by omega)
          rcases o2 with o2 | o2
          · rw [o2] at h2; exact absurd h2.symm h0
          · rw [o2] at h2; exact .inr h2.symm
      rw [e1, e2]
      refine ⟨o1.symm, rfl, hw, ⟨h1.id, h1.conf, h1.role, by simp [h1.len], fun t h0 => ?_, h1.ban⟩, by omega, fun h => by omega⟩
      show (t : Int) ≤ c1.term ∧ ((t : Int) = c1.term → f = (who.set tm.toNat f).getD t 0)
      by_cases e : t = tm.toNat
      · subst e
        refine ⟨by omega, fun _ => ?_⟩
        have := h1.len
        simp [List.getD, List.getElem?_set]
        rw [if_pos (by omega)]
        rfl
      · have h3 : (who.set tm.toNat f).getD t 0 = who.getD t 0 := by
          simp only [List.getD, List.getElem?_set]
          rw [if_neg (fun h => e h.symm)]
        rw [h3] at h0 ⊢
        refine ⟨(h1.of t h0).1, fun h4 => ?_⟩
        omega
end Go.Proofs.Ytpppoajnbhipeaa
