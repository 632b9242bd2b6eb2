/- CoreKeeps in plain words. -/
import Derived.Test.YtpppoajnbhipeaaOldA
import Derived.Test.YtpppoajnbhipeaaCoreI
import Derived.Test.YtpppoajnbhipeaaCoreG
namespace Go.Proofs.Ytpppoajnbhipeaa
open Go Go.RowKit

def cfP (p : Int) : ConfD := { nodes := p, clients := 2, heart := 2, lo := 8, range := 40, sessions := 3, snap := 9, room := 200, retry := 9 }
theorem cfP_is (p n : Int) (w : World) (wn : (Lit.int .i64 n).wf = true) (h : 3 + placeOf n 3 = p) : Calls Try.prog 19 #[.int .i64 n] w fun e w' => e = .returned (.agg #[.int .i64 p, .int .i64 2, .int .i64 2, .int .i64 8, .int .i64 40, .int .i64 3, .int .i64 9, .int .i64 200, .int .i64 9]) ∧ Keeps [] w w' := by
  have := cConf_any n w wn
  unfold confV confOf at this
  rw [h] at this
  exact this
theorem cfP_may {p : Int} (h : 3 ≤ p ∧ p ≤ 5) : (cfP p).may = true := by
  rw [ConfD.may_iff]
  unfold cfP
  simp only []
  omega
theorem oldL_terms (ts : List Int) : ∀ e ∈ oldL ts, 1 ≤ e.term ∧ e.term ≤ 5 := fun e he => by
  unfold oldL oldD at he
  obtain ⟨i, _, rfl⟩ := List.mem_map.1 he
  exact oldT_bd ts (i + 1)
theorem oldL_data (ts : List Int) : ∀ e ∈ oldL ts, e.data.length = 1 := fun e he => by
  unfold oldL oldD at he
  obtain ⟨i, _, rfl⟩ := List.mem_map.1 he
  rfl
theorem oldL_len (ts : List Int) : (oldL ts).length ≤ 12 := by
  unfold oldL
  rw [oldD_len]
  omega
theorem oldNew_may (ts : List Int) {p id t : Int} (h : 3 ≤ p ∧ p ≤ 5) (hi : 1 ≤ id ∧ id ≤ p) (ht : 0 ≤ t ∧ t ≤ 1000) : mayNewD (cfP p) id t 0 0 0 (oldL ts) = true := by
  have h1 := oldL_len ts
  simp only [mayNewD, inD, Bool.and_eq_true, decide_eq_true_eq, List.all_eq_true]
  refine ⟨⟨⟨⟨⟨⟨⟨cfP_may h, hi.1, hi.2⟩, ?_, ?_⟩, ?_, ?_⟩, ?_, ?_⟩, ?_, ?_⟩, ?_⟩, fun e he => ?_⟩
  all_goals first
    | omega
    | (have := oldL_terms ts e he; omega)
    | (show (0 : Int) ≤ p; omega)

def snapB : List UInt8 := [115, 110, 97, 112]
def snapM (k t : Int) : MsgD := { kind := 5, frm := 3, to := 1, term := 5, a := k, b := t, c := 0, ok := false, entries := [], data := snapB }
def toldM (k : Int) : MsgD := { kind := 4, frm := 1, to := 3, term := 5, a := k, b := 0, c := 0, ok := true, entries := [], data := [] }
def keepC (ts : List Int) : CoreD := newD (cfP 3) 1 5 0 0 0 (oldL ts)

structure KeepsIs (c : CoreD) (k t : Int) : Prop where
  base : c.base = k
  baseTerm : c.baseTerm = t
  commit : c.commit = k
  snap : c.snap = snapB
  hard : c.hard = false
  frm : c.frm = 0
  tsnap : c.tsnap = true

theorem keeps_right (ts : List Int) {k t : Int} (hk : 1 ≤ k ∧ k ≤ 15) (ht : 1 ≤ t ∧ t ≤ 5) : wrongD (keepC ts) (snapM k t) = false := by
  have d1 : decide (0 ≤ k) = true := by simp; omega
  have d2 : decide (k ≤ 1099511627776) = true := by simp; omega
  have d3 : decide (0 ≤ t) = true := by simp; omega
  have d4 : decide (t ≤ 1099511627776) = true := by simp; omega
  simp [wrongD, wrongHead, snapM, keepC, newD, cfP, inD]
  exact ⟨⟨d1, d2⟩, d3, d4⟩
theorem keeps_heard (ts : List Int) {k t : Int} (hk : 1 ≤ k ∧ k ≤ 15) (ht : 1 ≤ t ∧ t ≤ 5) : hearD (keepC ts) (snapM k t) = takesD (followD (keepC ts) (snapM k t)) (snapM k t) := by
  unfold hearD
  rw [keeps_right ts hk ht]
  have e : stepD (keepC ts) (snapM k t) = keepC ts := by unfold stepD; rw [if_neg (by simp [snapM, keepC, newD])]
  rw [e]
  have hs : snapNo (snapM k t) = false := by
    have d1 : decide (1 ≤ k) = true := by simp; omega
    have d2 : decide (k ≤ 549755813888) = true := by simp; omega
    have d3 : decide (1 ≤ t) = true := by simp; omega
    have d4 : decide (t ≤ 5) = true := by simp; omega
    simp [snapNo, snapM, inD]
    exact ⟨⟨d1, d2⟩, d3, d4⟩
  unfold heardD
  rw [hs]
  simp [snapM, keepC, newD]
theorem keeps_at (ts : List Int) {j : Nat} {e : Ent} (he : (oldL ts)[j]? = some e) : atD (followD (keepC ts) (snapM ((j : Int) + 1) 0)) ((j : Int) + 1) = (e.term, true) := by
  have hj : j < (oldL ts).length := (List.getElem?_eq_some_iff.1 he).1
  unfold atD followD keepC newD lastD
  simp only []
  rw [if_neg (by omega), if_neg (by omega), show ((j : Int) + 1 - 0 - 1).toNat = j by omega, he]
  rfl
theorem keeps_same (ts : List Int) {j : Nat} {e : Ent} (he : (oldL ts)[j]? = some e) : ∃ c2, hearD (keepC ts) (snapM ((j : Int) + 1) e.term) = (c2, [toldM ((j : Int) + 1)]) ∧ KeepsIs c2 ((j : Int) + 1) e.term ∧ c2.l = (oldL ts).drop (j + 1) := by
  have hj : j < (oldL ts).length := (List.getElem?_eq_some_iff.1 he).1
  have h12 := oldL_len ts
  have ht := oldL_terms ts e (List.mem_of_getElem? he)
  have ha := keeps_at ts he
  rw [keeps_heard ts (by omega) ht]
  have hat : atD (followD (keepC ts) (snapM ((j : Int) + 1) e.term)) ((j : Int) + 1) = (e.term, true) := ha
  have hc : ¬ (snapM ((j : Int) + 1) e.term).a ≤ (followD (keepC ts) (snapM ((j : Int) + 1) e.term)).commit := by show ¬ ((j : Int) + 1 ≤ 0); omega
  unfold takesD
  rw [if_neg hc, if_pos (by show (atD _ ((j : Int) + 1)).2 = true ∧ (atD _ ((j : Int) + 1)).1 = e.term; rw [hat]; exact ⟨rfl, rfl⟩)]
  refine ⟨_, rfl, ⟨rfl, ?_, rfl, rfl, rfl, rfl, rfl⟩, ?_⟩
  · show (atD _ ((j : Int) + 1)).1 = e.term
    rw [hat]
  · show (oldL ts).drop ((j : Int) + 1 - 0).toNat = _
    rw [show ((j : Int) + 1 - 0).toNat = j + 1 by omega]
theorem keeps_other (ts : List Int) {k t : Int} (hk : 1 ≤ k ∧ k ≤ 15) (ht : 1 ≤ t ∧ t ≤ 5) (hn : ∀ (j : Nat) (e : Ent), (oldL ts)[j]? = some e → k = (j : Int) + 1 → e.term ≠ t) : ∃ c2, hearD (keepC ts) (snapM k t) = (c2, [toldM k]) ∧ KeepsIs c2 k t ∧ c2.l = [] := by
  rw [keeps_heard ts hk ht]
  have hc : ¬ (snapM k t).a ≤ (followD (keepC ts) (snapM k t)).commit := by show ¬ (k ≤ 0); omega
  have hf : ¬ ((atD (followD (keepC ts) (snapM k t)) (snapM k t).a).2 = true ∧ (atD (followD (keepC ts) (snapM k t)) (snapM k t).a).1 = (snapM k t).b) := by
    rintro ⟨h1, h2⟩
    rcases hj : (oldL ts)[(k - 1).toNat]? with _ | e
    · have h3 := List.getElem?_eq_none_iff.1 hj
      have e1 : (atD (followD (keepC ts) (snapM k t)) k) = (0, false) := by
        unfold atD followD keepC newD lastD
        simp only []
        rw [if_neg (by omega), if_pos (by omega)]
      rw [show (snapM k t).a = k from rfl, e1] at h1
      cases h1
    · have h3 := keeps_at ts hj
      have h4 : (((k - 1).toNat : Nat) : Int) + 1 = k := by omega
      rw [h4] at h3
      have h5 : atD (followD (keepC ts) (snapM k t)) k = (e.term, true) := h3
      rw [show (snapM k t).a = k from rfl, h5] at h2
      exact hn _ e hj (by omega) h2
  unfold takesD
  rw [if_neg hc, if_neg hf]
  exact ⟨_, rfl, ⟨rfl, rfl, rfl, rfl, rfl, rfl, rfl⟩, rfl⟩

end Go.Proofs.Ytpppoajnbhipeaa
