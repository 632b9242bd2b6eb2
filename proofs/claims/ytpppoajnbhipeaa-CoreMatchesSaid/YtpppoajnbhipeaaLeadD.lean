/- A core that comes to lead, in plain words. -/
import Derived.Test.YtpppoajnbhipeaaCoreI
import Derived.Test.YtpppoajnbhipeaaCoreG
namespace Go.Proofs.Ytpppoajnbhipeaa
open Go Go.RowKit

def cfL (p : Int) : ConfD := { nodes := p, clients := 2, heart := 2, lo := 8, range := 40, sessions := 3, snap := 9, room := 200, retry := 9 }
theorem cfL_is (p n : Int) (w : World) (wn : (Lit.int .i64 n).wf = true) (h : 3 + placeOf n 3 = p) : Calls Try.prog 19 #[.int .i64 n] w fun e w' => e = .returned (.agg #[.int .i64 p, .int .i64 2, .int .i64 2, .int .i64 8, .int .i64 40, .int .i64 3, .int .i64 9, .int .i64 200, .int .i64 9]) ∧ Keeps [] w w' := by
  have := cConf_any n w wn
  unfold confV confOf at this
  rw [h] at this
  exact this

/-- Behind k ticks. -/
def leadS (p t0 : Int) (l : List Ent) (k : Nat) : CoreD := { newD (cfL p) 1 t0 0 0 0 l with patience := k }
/-- It asks for votes. -/
def leadX (p t0 : Int) (l : List Ent) : CoreD := runD (leadS p t0 l 7)
def leadT (p t0 : Int) (l : List Ent) (k : Nat) : CoreD := if k ≤ 7 then leadS p t0 l k else leadX p t0 l
def voteY (i t : Int) : MsgD := { kind := 2, frm := i, to := 1, term := t, a := 0, b := 0, c := 0, ok := true, entries := [], data := [] }
/-- Ahead of the vote of node i. -/
def leadV (p t0 : Int) (l : List Ent) : Nat → CoreD
  | 0 => leadX p t0 l
  | i + 1 => if i < 2 then leadX p t0 l else (hearD (leadV p t0 l i) (voteY i (leadV p t0 l i).term)).1

/-- It leads. -/
structure Led (p t0 : Int) (l : List Ent) (c : CoreD) : Prop where
  conf : c.conf = cfL p
  id : c.id = 1
  term : c.term = t0 + 1
  vote : c.vote = 1
  role : c.role = 2
  leader : c.leader = 1
  commit : c.commit = 0
  base : c.base = 0
  baseTerm : c.baseTerm = 0
  log : c.l = l ++ [{ term := t0 + 1, cmd := false, data := [] }]
  snap : c.snap = []
  draw : c.draw = 0
  patience : c.patience = 0
  next : c.next = List.replicate 8 ((l.length : Int) + 1)
  matc : c.matc = List.replicate 8 0
  ban : c.ban = fun _ => False

theorem hear_vote {p t0 : Int} {c : CoreD} (hc : c.conf = cfL p) (hi : c.id = 1) (ht : c.term = t0 + 1) (h0 : 0 ≤ t0 ∧ t0 ≤ 1000) {i : Nat} (h2 : 2 ≤ i) (hp : (i : Int) ≤ p) : hearD c (voteY i c.term) = votedD c (voteY i c.term) := by
  have hw : wrongD c (voteY i c.term) = false := by
    have d1 : decide (1 ≤ (i : Int)) = true := by simp; omega
    have d2 : decide ((i : Int) ≤ p) = true := by simpa using hp
    have d3 : decide (1 ≤ t0 + 1) = true := by simp; omega
    have d4 : decide (t0 + 1 ≤ 1099511627776) = true := by simp; omega
    have d5 : ((i : Int) == 1) = false := by simp; omega
    simp only [wrongD, wrongHead, voteY, hc, hi, ht, cfL, inD, d1, d2, d3, d4, d5, List.any_nil, List.length_nil]
    decide
  unfold hearD
  rw [hw]
  have e : stepD c (voteY i c.term) = c := by unfold stepD; rw [if_neg (by show ¬ c.term < c.term; omega)]
  rw [e]
  rfl
theorem led_same {p t0 : Int} {l : List Ent} {c : CoreD} (h : Led p t0 l c) (h0 : 0 ≤ t0 ∧ t0 ≤ 1000) {i : Nat} (h2 : 2 ≤ i) (hp : (i : Int) ≤ p) : (hearD c (voteY i c.term)).1 = c := by
  rw [hear_vote h.conf h.id h.term h0 h2 hp]
  unfold votedD
  rw [if_pos (.inr (.inl (by rw [h.role]; decide)))]
def leadW (p t0 : Int) (l : List Ent) (vs : List Bool) : CoreD := { leadX p t0 l with votes := vs }
theorem leadX_heard {p t0 : Int} {l : List Ent} (vs : List Bool) (h0 : 0 ≤ t0 ∧ t0 ≤ 1000) {i : Nat} (h2 : 2 ≤ i) (hp : (i : Int) ≤ p) :
    hearD (leadW p t0 l vs) (voteY i (leadW p t0 l vs).term) = if ((vs.set i true).count true : Int) ≤ p / 2 then (leadW p t0 l (vs.set i true), [])
      else (leadD (leadW p t0 l (vs.set i true)), othersD (leadD (leadW p t0 l (vs.set i true))) (sendD (leadD (leadW p t0 l (vs.set i true))))) := by
  rw [hear_vote (p := p) (t0 := t0) rfl rfl rfl h0 h2 hp]
  unfold votedD
  rw [if_neg (fun h => h.elim (fun h => h rfl) (fun h => h.elim (fun h => h rfl) (fun h => by cases h)))]
  rfl
theorem leadX_leads {p t0 : Int} {l : List Ent} (vs : List Bool) (hl : l.length < 5096) : Led p t0 l (leadD (leadW p t0 l vs)) := by
  unfold leadD
  rw [if_pos (by exact hl)]
  exact { conf := rfl, id := rfl, term := rfl, vote := rfl, role := rfl, leader := rfl, commit := rfl, base := rfl, baseTerm := rfl, log := rfl, snap := rfl, draw := by show min ((1 - 1) * (2 + 6)) 40 = (0 : Int); decide, patience := rfl, next := by show List.replicate 8 ((0 : Int) + l.length + 1) = _; rw [Int.zero_add], matc := rfl, ban := rfl }

theorem leadV_succ {p t0 : Int} {l : List Ent} {i : Nat} (h : 2 ≤ i) : leadV p t0 l (i + 1) = (hearD (leadV p t0 l i) (voteY i (leadV p t0 l i).term)).1 := by
  conv => lhs; unfold leadV
  rw [if_neg (by omega)]
theorem leadV_two {p t0 : Int} {l : List Ent} : leadV p t0 l 2 = leadX p t0 l := by
  unfold leadV
  rw [if_pos (by decide)]
theorem voted_last (c : CoreD) (m : MsgD) : lastD (votedD c m).1 ≤ lastD c + 1 := by
  unfold votedD
  split
  · show lastD c ≤ _
    omega
  · split
    · show lastD c ≤ _
      omega
    · show lastD (leadD (votedC c m)) ≤ _
      unfold leadD
      split
      · show c.base + ((c.l ++ [_]).length : Int) ≤ c.base + c.l.length + 1
        simp
        omega
      · show lastD c ≤ _
        omega
theorem hear_last (c : CoreD) (i t : Int) : lastD (hearD c (voteY i t)).1 ≤ lastD c + 1 := by
  unfold hearD
  split
  · show lastD c ≤ _
    omega
  · have e : heardD (stepD c (voteY i t)) (voteY i t) = votedD (stepD c (voteY i t)) (voteY i t) := rfl
    rw [e]
    have h1 := voted_last (stepD c (voteY i t)) (voteY i t)
    have h2 : lastD (stepD c (voteY i t)) = lastD c := by unfold stepD; split <;> rfl
    omega
theorem leadV_last {p t0 : Int} {l : List Ent} : ∀ i : Nat, lastD (leadV p t0 l i) ≤ l.length + i
  | 0 => by show (0 : Int) + l.length ≤ _; omega
  | i + 1 => by
    have h1 := leadV_last (p := p) (t0 := t0) (l := l) i
    unfold leadV
    split
    · show (0 : Int) + l.length ≤ _; omega
    · have h2 := hear_last (leadV p t0 l i) i (leadV p t0 l i).term
      omega
theorem leadV_led {p t0 : Int} {l : List Ent} (hp : 3 ≤ p ∧ p ≤ 5) (h0 : 0 ≤ t0 ∧ t0 ≤ 1000) (hl : l.length < 5096) : Led p t0 l (leadV p t0 l (p.toNat + 1)) := by
  have hx : leadX p t0 l = leadW p t0 l [false, true, false, false, false, false, false, false] := rfl
  have hp3 : p = 3 ∨ p = 4 ∨ p = 5 := by omega
  rcases hp3 with rfl | rfl | rfl
  · have e3 : Led 3 t0 l (leadV 3 t0 l 3) := by
      rw [leadV_succ (by omega), leadV_two, hx, leadX_heard _ h0 (by omega) (by decide), if_neg (by decide)]
      exact leadX_leads _ hl
    show Led 3 t0 l (leadV 3 t0 l 4)
    rw [leadV_succ (by omega), led_same e3 h0 (by omega) (by decide)]
    exact e3
  · have e3 : leadV 4 t0 l 3 = leadW 4 t0 l [false, true, true, false, false, false, false, false] := by
      rw [leadV_succ (by omega), leadV_two, hx, leadX_heard _ h0 (by omega) (by decide), if_pos (by decide)]
      rfl
    have e4 : Led 4 t0 l (leadV 4 t0 l 4) := by
      rw [leadV_succ (by omega), e3, leadX_heard _ h0 (by omega) (by decide), if_neg (by decide)]
      exact leadX_leads _ hl
    show Led 4 t0 l (leadV 4 t0 l 5)
    rw [leadV_succ (by omega), led_same e4 h0 (by omega) (by decide)]
    exact e4
  · have e3 : leadV 5 t0 l 3 = leadW 5 t0 l [false, true, true, false, false, false, false, false] := by
      rw [leadV_succ (by omega), leadV_two, hx, leadX_heard _ h0 (by omega) (by decide), if_pos (by decide)]
      rfl
    have e4 : Led 5 t0 l (leadV 5 t0 l 4) := by
      rw [leadV_succ (by omega), e3, leadX_heard _ h0 (by omega) (by decide), if_neg (by decide)]
      exact leadX_leads _ hl
    have e5 : Led 5 t0 l (leadV 5 t0 l 5) := by
      rw [leadV_succ (by omega), led_same e4 h0 (by omega) (by decide)]
      exact e4
    show Led 5 t0 l (leadV 5 t0 l 6)
    rw [leadV_succ (by omega), led_same e5 h0 (by omega) (by decide)]
    exact e5

end Go.Proofs.Ytpppoajnbhipeaa
