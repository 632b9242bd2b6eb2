/- Joined of VaU, Plan, VaA. -/
import Derived.Test.YtnjdepojmnniaaaGreatDoorQ01
import Derived.Lib.ItoaLen
import Derived.Lib.Small
import Derived.StillTail
import Derived.OrdersHeld
import Derived.Deep.RegionHeld
import Derived.Tactics
import Derived.Test.YtnjdepojmnniaaaGreatDoorQ00
import Derived.Outline

set_option linter.unusedSimpArgs false
set_option linter.unusedVariables false

/- What is shown of a value, rune by rune: plain. -/
namespace Go.Proofs.YtnjdepojmnniaaaGreatDoor
open Go

theorem decodeN_valid (n b0 b1 b2 b3 : Nat) : (Lib.decodeN n b0 b1 b2 b3).1 < 55296 ∨ (57344 ≤ (Lib.decodeN n b0 b1 b2 b3).1 ∧ (Lib.decodeN n b0 b1 b2 b3).1 ≤ 1114111) := by
  unfold Lib.decodeN
  repeat' split
  all_goals simp only
  all_goals omega
theorem decodeL_valid (l : List UInt8) : (Lib.decodeL l).1 < 55296 ∨ (57344 ≤ (Lib.decodeL l).1 ∧ (Lib.decodeL l).1 ≤ 1114111) := by
  rw [Lib.decodeL_N]; exact decodeN_valid _ _ _ _ _

theorem nat_byte (n : Nat) (h : n < 256) : ((n : Int).toNat.toUInt8).toNat = n := by
  simp
  omega
theorem enc1 (r : Nat) (h : r < 128) : Lib.encodeRune (r : Int) = [UInt8.ofNat r] := by
  unfold Lib.encodeRune
  rw [Lib.encodeRuneZ_one (by omega) (by omega)]
  simp
theorem enc2 (r : Nat) (h0 : 128 ≤ r) (h1 : r ≤ 2047) : Lib.encodeRune (r : Int) = [UInt8.ofNat (192 + r / 64), UInt8.ofNat (128 + r % 64)] := by
  unfold Lib.encodeRune
  rw [Lib.encodeRuneZ_two (by omega) (by omega)]
  rw [show (192 + (r : Int) / 64) = ((192 + r / 64 : Nat) : Int) by omega, show (128 + (r : Int) % 64) = ((128 + r % 64 : Nat) : Int) by omega]
  rfl
theorem enc3 (r : Nat) (h : (2048 ≤ r ∧ r < 55296) ∨ (57343 < r ∧ r ≤ 65535)) : Lib.encodeRune (r : Int) = [UInt8.ofNat (224 + r / 4096), UInt8.ofNat (128 + r / 64 % 64), UInt8.ofNat (128 + r % 64)] := by
  unfold Lib.encodeRune
  rw [Lib.encodeRuneZ_three (by omega)]
  rw [show (224 + (r : Int) / 4096) = ((224 + r / 4096 : Nat) : Int) by omega, show (128 + (r : Int) / 64 % 64) = ((128 + r / 64 % 64 : Nat) : Int) by omega, show (128 + (r : Int) % 64) = ((128 + r % 64 : Nat) : Int) by omega]
  rfl
theorem enc4 (r : Nat) (h0 : 65536 ≤ r) (h1 : r ≤ 1114111) : Lib.encodeRune (r : Int) = [UInt8.ofNat (240 + r / 262144), UInt8.ofNat (128 + r / 4096 % 64), UInt8.ofNat (128 + r / 64 % 64), UInt8.ofNat (128 + r % 64)] := by
  unfold Lib.encodeRune
  rw [Lib.encodeRuneZ_four (by omega) (by omega)]
  rw [show (240 + (r : Int) / 262144) = ((240 + r / 262144 : Nat) : Int) by omega, show (128 + (r : Int) / 4096 % 64) = ((128 + r / 4096 % 64 : Nat) : Int) by omega, show (128 + (r : Int) / 64 % 64) = ((128 + r / 64 % 64 : Nat) : Int) by omega, show (128 + (r : Int) % 64) = ((128 + r % 64 : Nat) : Int) by omega]
  rfl
theorem ofNat_toNat (n : Nat) (h : n < 256) : (UInt8.ofNat n).toNat = n := by
  simp
  omega
/-- A rune that was written is read again. -/
theorem decode_encode (r : Nat) (hv : r < 55296 ∨ (57344 ≤ r ∧ r ≤ 1114111)) (t : List UInt8) : Lib.decodeL (Lib.encodeRune (r : Int) ++ t) = (r, (Lib.encodeRune (r : Int)).length) := by
  rw [Lib.decodeL_N]
  by_cases h1 : r < 128
  · rw [enc1 r h1]
    simp only [List.cons_append, List.nil_append, List.getD_cons_zero]
    rw [Lib.decodeN_ascii _ _ _ _ _ (by rw [ofNat_toNat _ (by omega)]; exact h1), ofNat_toNat _ (by omega)]
    rfl
  by_cases h2 : r ≤ 2047
  · rw [enc2 r (by omega) h2]
    simp only [List.cons_append, List.nil_append, List.getD_cons_zero, List.getD_cons_succ, List.length_cons]
    rw [ofNat_toNat _ (by omega), ofNat_toNat _ (by omega), decN2 _ _ _ _ _ (by omega) (by omega), if_pos (by omega)]
    exact Prod.ext (by show (192 + r / 64 - 192) * 64 + (128 + r % 64 - 128) = r; omega) rfl
  by_cases h3 : r ≤ 65535
  · rw [enc3 r (by omega)]
    simp only [List.cons_append, List.nil_append, List.getD_cons_zero, List.getD_cons_succ, List.length_cons]
    rw [ofNat_toNat _ (by omega), ofNat_toNat _ (by omega), ofNat_toNat _ (by omega), decN3 _ _ _ _ _ (by omega) (by omega) (by omega)]
    have e : ((224 + r / 4096 - 224) * 64 + (128 + r / 64 % 64 - 128)) * 64 + (128 + r % 64 - 128) = r := by omega
    rw [e, if_pos ⟨by omega, by omega, by unfold ok3; omega⟩]
    rfl
  · rw [enc4 r (by omega) (by omega)]
    simp only [List.cons_append, List.nil_append, List.getD_cons_zero, List.getD_cons_succ, List.length_cons]
    rw [ofNat_toNat _ (by omega), ofNat_toNat _ (by omega), ofNat_toNat _ (by omega), ofNat_toNat _ (by omega), decN4 _ _ _ _ _ (by omega) (by omega) (by omega) (by omega)]
    have e : (((240 + r / 262144 - 240) * 64 + (128 + r / 4096 % 64 - 128)) * 64 + (128 + r / 64 % 64 - 128)) * 64 + (128 + r % 64 - 128) = r := by omega
    rw [e, if_pos ⟨by omega, by omega, by omega, by unfold ok4; omega⟩]
    rfl

/-- No piece is a byte that is none, no piece is a control. -/
def okGo : Nat → List UInt8 → Bool
  | 0, _ => true
  | f + 1, l => if l = [] then true else !badL l && (!ctlR (Lib.decodeL l).1 && okGo f (l.drop (Lib.decodeL l).2))
def okL (l : List UInt8) : Bool := okGo l.length l
theorem okGo_nil : ∀ f, okGo f [] = true
  | 0 => rfl
  | _ + 1 => by simp [okGo]
theorem okGo_fuel : ∀ (f g : Nat) (l : List UInt8), l.length ≤ f → l.length ≤ g → okGo f l = okGo g l
  | 0, g, l, hf, _ => by
    obtain rfl : l = [] := List.eq_nil_of_length_eq_zero (by omega)
    rw [okGo_nil, okGo_nil]
  | f + 1, 0, l, _, hg => by
    obtain rfl : l = [] := List.eq_nil_of_length_eq_zero (by omega)
    rw [okGo_nil, okGo_nil]
  | f + 1, g + 1, l, hf, hg => by
    unfold okGo
    by_cases hne : l = []
    · simp [hne]
    · have hw := Lib.decodeL_width l
      have hl : 0 < l.length := List.length_pos_iff.2 hne
      rw [if_neg hne, if_neg hne, okGo_fuel f g (l.drop (Lib.decodeL l).2) (by rw [List.length_drop]; omega) (by rw [List.length_drop]; omega)]
theorem okL_step {l : List UInt8} (hne : l ≠ []) : okL l = (!badL l && (!ctlR (Lib.decodeL l).1 && okL (l.drop (Lib.decodeL l).2))) := by
  have hl : 0 < l.length := List.length_pos_iff.2 hne
  have hw := Lib.decodeL_width l
  obtain ⟨n, hn⟩ : ∃ n, l.length = n + 1 := ⟨l.length - 1, by omega⟩
  unfold okL
  rw [hn]
  show (if l = [] then true else _) = _
  rw [if_neg hne, okGo_fuel n (l.drop (Lib.decodeL l).2).length _ (by rw [List.length_drop]; omega) (Nat.le_refl _)]
theorem pcs_ok : ∀ (f p : Nat) (l : List UInt8), (pcs f p l).all (fun x => !x.bad && !ctlR x.r) = okGo f l
  | 0, _, _ => rfl
  | f + 1, p, l => by
    unfold pcs okGo
    by_cases hne : l = []
    · simp [hne]
    · rw [if_neg hne, if_neg hne, List.all_cons, pcs_ok f, Bool.and_assoc]
theorem pieces_ok (l : List UInt8) : (pieces l).all (fun x => !x.bad && !ctlR x.r) = okL l := pcs_ok _ _ _
theorem okL_rune (r : Nat) (hv : r < 55296 ∨ (57344 ≤ r ∧ r ≤ 1114111)) (t : List UInt8) : okL (Lib.encodeRune (r : Int) ++ t) = (!ctlR r && okL t) := by
  have hln := Lib.runeCells_le (r : Int)
  rw [Lib.runeCells_length] at hln
  have hne : Lib.encodeRune (r : Int) ++ t ≠ [] := by
    intro h
    have := congrArg List.length h
    simp at this
    rw [this.1] at hln
    simp at hln
  have hd := decode_encode r hv t
  have hb : badL (Lib.encodeRune (r : Int) ++ t) = false := by
    unfold badL
    rw [hd]
    by_cases h : r = 65533
    · subst h
      rw [enc3 65533 (by omega)]
      rfl
    · simp [h]
  rw [okL_step hne, hb, hd]
  simp
theorem okL_byte (b : UInt8) (t : List UInt8) (h0 : 32 ≤ b.toNat) (h1 : b.toNat < 127) : okL (b :: t) = okL t := by
  have h := okL_rune b.toNat (by omega) t
  rw [enc1 b.toNat (by omega)] at h
  have e : UInt8.ofNat b.toNat = b := by simp
  rw [e] at h
  have hc : ctlR b.toNat = false := by simp [ctlR]; omega
  rw [hc] at h
  exact h
theorem okL_bytes : ∀ (l t : List UInt8), (∀ b ∈ l, 32 ≤ b.toNat ∧ b.toNat < 127) → okL (l ++ t) = okL t
  | [], _, _ => rfl
  | b :: l, t, h => by
    rw [List.cons_append, okL_byte b _ (h b (by simp)).1 (h b (by simp)).2]
    exact okL_bytes l t (fun c hc => h c (by simp [hc]))
theorem okL_ascii (l : List UInt8) (h : ∀ b ∈ l, 32 ≤ b.toNat ∧ b.toNat < 127) : okL l = true := by
  have := okL_bytes l [] h
  rw [List.append_nil] at this
  exact this
theorem hexN_bd (n : Nat) (h : n < 16) : 48 ≤ hexN n ∧ hexN n ≤ 102 := by unfold hexN; split <;> omega
theorem hexD_bd (n : Nat) (h : n < 16) : 32 ≤ (hexD n).toNat ∧ (hexD n).toNat < 127 := by
  have := hexN_bd n h
  unfold hexD
  rw [ofNat_toNat _ (by omega)]
  omega
theorem okL_quoteR (r : Nat) (hv : r < 55296 ∨ (57344 ≤ r ∧ r ≤ 1114111)) (t : List UInt8) : okL (quoteR r ++ t) = okL t := by
  by_cases h : r = 34 ∨ r = 92
  · rw [quoteR_sign h, List.cons_append, okL_byte _ _ (by decide) (by decide), okL_rune r hv]
    have hc : ctlR r = false := by simp [ctlR]; omega
    rw [hc]; rfl
  · rcases hc : ctlR r with _ | _
    · rw [quoteR_any h hc, okL_rune r hv, hc]; rfl
    · have hr : r ≤ 159 := by simp [ctlR] at hc; omega
      rw [quoteR_ctl hc]
      exact okL_bytes _ _ (fun b hb => by
        simp at hb
        rcases hb with rfl | rfl | rfl | rfl | rfl
        · decide
        · decide
        · decide
        · exact hexD_bd _ (by omega)
        · exact hexD_bd _ (by omega))
theorem okL_quoteGo : ∀ (f : Nat) (l t : List UInt8), okL (quoteGo f l ++ t) = okL t
  | 0, _, _ => rfl
  | f + 1, l, t => by
    unfold quoteGo
    split
    · rfl
    · rw [List.append_assoc, okL_quoteR _ (decodeL_valid l), okL_quoteGo f]
theorem okL_quote (l : List UInt8) : okL (quoteL l) = true := by
  unfold quoteL
  rw [okL_byte _ _ (by decide) (by decide), okL_quoteGo]
  exact okL_ascii _ (by decide)
theorem digits_bd : ∀ (u : Nat), ∀ b ∈ Lib.decDigits u, 48 ≤ b.toNat ∧ b.toNat ≤ 57 := by
  intro u
  induction u using Nat.strongRecOn with
  | _ u ih =>
    intro b hb
    rw [Lib.decDigits] at hb
    split at hb
    · rw [List.mem_singleton.1 hb, ofNat_toNat _ (by omega)]
      omega
    · rw [List.mem_append] at hb
      rcases hb with hb | hb
      · exact ih (u / 10) (by omega) b hb
      · rw [List.mem_singleton.1 hb, ofNat_toNat _ (by omega)]
        omega
theorem itoa_bd (n : Int) : ∀ b ∈ Lib.itoa n, 45 ≤ b.toNat ∧ b.toNat ≤ 57 := by
  intro b hb
  unfold Lib.itoa at hb
  split at hb
  · simp at hb
    rcases hb with rfl | hb
    · decide
    · have := digits_bd _ b hb; omega
  · have := digits_bd _ b hb; omega
theorem digits_ne (u : Nat) : Lib.decDigits u ≠ [] := by
  intro h
  have := Lib.decDigits_length u
  rw [h] at this
  have := Lib.nDigits_pos u
  simp at *
  omega
theorem itoa_ne (n : Int) : Lib.itoa n ≠ [] := by
  unfold Lib.itoa
  split
  · simp
  · exact digits_ne _

end Go.Proofs.YtnjdepojmnniaaaGreatDoor

/- A region that draws its order, walked in ONE order of the prover's choice: operations that yield their value in every world that meets S are taken first; the others come one at a time; behind each of them S holds, up «to» place n; from n on the operations stand in one forced order, and S is no longer asked (a store into a cell that the region has read). No program is named here. -/
namespace Go.Proofs.YtnjdepojmnniaaaGreatDoor.Plan
open Go

section
variable {P : Program} {ops : Array Oper} {Q : Exit → Act → World → Prop} {md : Region.Mode} {S : World → Prop}

def wpAnyT (P : Program) (md : Region.Mode) (ops : Array Oper) (Q : Exit → Act → World → Prop) (S : World → Prop) (n : Nat) (L : Array Bool → Act → World → Prop) : Nat → Array Bool → Act → World → Prop
  | 0, listed, a, w => L listed a w
  | f + 1, listed, a, w => Region.ready md ops listed ≠ [] ∧ ∀ i ∈ Region.ready md ops listed, i < n ∧ wpOp P ops Q i (fun a' w' => S w' ∧ wpAnyT P md ops Q S n L f (listed.setIfInBounds i true) a' w') a w

theorem wpAny_of_T {n g : Nat} {L : Array Bool → Act → World → Prop} (hL : ∀ listed a w, L listed a w → wpAny P md ops Q g listed a w) :
    ∀ (f : Nat) (listed : Array Bool) (a : Act) (w : World), wpAnyT P md ops Q S n L f listed a w → wpAny P md ops Q (f + g) listed a w
  | 0, listed, a, w, h => by rw [Nat.zero_add]; exact hL _ _ _ h
  | f + 1, listed, a, w, h => by
    rw [show f + 1 + g = (f + g) + 1 by omega]
    exact ⟨fun h0 => absurd h0 h.1, fun i hi => wpOp_mono (fun a' w' h' => wpAny_of_T hL f _ a' w' h'.2) (h.2 i hi).2⟩

/-- Nothing from n on comes up while something below n has not. -/
theorem barrier {n : Nat} {listed : Array Bool} (hb : n = ops.size ∨ (Region.sinkB md ops n = true ∧ Region.chainB md ops n = true ∧ n < ops.size)) (inv : HeadInv md ops n listed) {i : Nat} (hin : i < n) (hun : listed.getD i true = false) :
    ∀ j ∈ Region.ready md ops listed, j < n := fun j hj => by
  rcases hb with rfl | ⟨hs, hc, hn⟩
  · obtain ⟨_, oj, hoj, _⟩ := mem_ready.1 hj
    exact (Array.getElem?_eq_some_iff.1 hoj).1
  · rcases Nat.lt_or_ge j n with h | h
    · exact h
    · exact absurd hj (tail_waits hs hc hn inv _ i rfl hin hun j h)

theorem wpAnyT_first {n i : Nat} {oi : Oper} {v : Value} {L : Array Bool → Act → World → Prop} (hi : ops[i]? = some oi) (hsel : ∀ (j : Nat) (o : Oper) cs b, ops[j]? = some o → o.op ≠ .select cs b)
    (hb : n = ops.size ∨ (Region.sinkB md ops n = true ∧ Region.chainB md ops n = true ∧ n < ops.size)) (hin : i < n)
    (hdone : ∀ listed a w, L listed a w → ∀ j ∈ Region.ready md ops listed, n ≤ j) (hQ : ∀ c a w, Q (.panic c) (a.put oi.dst v) w → Q (.panic c) a w) :
    ∀ (f : Nat) (listed : Array Bool) (a : Act) (w : World), HeadInv md ops n listed →
      (∀ j oj, ops[j]? = some oj → j ≠ i → listed.getD j true = false → (∀ e ∈ oj.after, Region.binds md e = true → e.on ≠ i) → oi.apart ops oj = true) →
      i ∈ Region.ready md ops listed → YieldsIf P ops S oi v a → S w →
      wpAnyT P md ops Q S n L f (listed.setIfInBounds i true) (a.put oi.dst v) w → wpAnyT P md ops Q S n L (f + 1) listed a w := by
  intro f
  induction f with
  | zero =>
    intro listed a w inv _ hr hy hS H
    refine ⟨fun h => (by rw [h] at hr; cases hr), fun j hj => ?_⟩
    have hjn : j < n := barrier hb inv hin (mem_ready.1 hr).1 j hj
    refine ⟨hjn, ?_⟩
    by_cases hji : j = i
    · subst hji; exact hy.wpOp hi hS ⟨hS, H⟩
    · have := hdone _ _ _ H j (ready_mono hj hji)
      omega
  | succ f ih =>
    intro listed a w inv hfree hr hy hS H
    have hun := (mem_ready.1 hr).1
    refine ⟨fun h => (by rw [h] at hr; cases hr), fun j hj => ?_⟩
    have hjn : j < n := barrier hb inv hin hun j hj
    refine ⟨hjn, ?_⟩
    by_cases hji : j = i
    · subst hji; exact hy.wpOp hi hS ⟨hS, H⟩
    · have h1 := (H.2 j (ready_mono hj hji)).2
      obtain ⟨hjun, oj, hoj, hall⟩ := mem_ready.1 hj
      have hnot : ∀ e ∈ oj.after, Region.binds md e = true → e.on ≠ i := fun e he hb heq => by
        have h1 := hall e he hb
        rw [heq, getD_both hun] at h1
        cases h1
      have h2 := wpOp_putIf hoj (hfree j oj hoj hji hjun hnot) (fun cs b => hsel i oi cs b hi) (fun cs b => hsel j oj cs b hoj) hQ hy h1
      have hfree' : ∀ k ok, ops[k]? = some ok → k ≠ i → (listed.setIfInBounds j true).getD k true = false →
          (∀ e ∈ ok.after, Region.binds md e = true → e.on ≠ i) → oi.apart ops ok = true := fun k ok hk hki hun hno => by
        refine hfree k ok hk hki ?_ hno
        by_cases hjk : j = k
        · subst hjk; exact hjun
        · rw [getD_set_ne true hjk] at hun; exact hun
      refine wpOp_mono (fun a' w' h3 => ⟨h3.2.1, ih (listed.setIfInBounds j true) a' w' (inv.set hj hjn) hfree' (ready_mono hr (Ne.symm hji)) h3.1 h3.2.1 ?_⟩) h2
      rw [Array.setIfInBounds_comm _ _ hji]
      exact h3.2.2

/-- The plan: number i is taken first (true), or comes up alone (false). -/
def planB (md : Region.Mode) (ops : Array Oper) (n g : Nat) : List (Bool × Nat) → Array Bool → Bool
  | [], listed => Region.seqB md ops g n listed
  | (true, i) :: r, listed => decide (i < n) && (Region.ready md ops listed).contains i && Region.free md ops listed i && planB md ops n g r (listed.setIfInBounds i true)
  | (false, i) :: r, listed => decide (i < n) && decide (Region.ready md ops listed = [i]) && planB md ops n g r (listed.setIfInBounds i true)

/-- What is left «to» walk. -/
def wpPlan (P : Program) (ops : Array Oper) (Q : Exit → Act → World → Prop) (S : World → Prop) (L : Act → World → Prop) : List (Bool × Nat) → Act → World → Prop
  | [], a, w => L a w
  | (true, i) :: r, a, w => ∃ oi v, ops[i]? = some oi ∧ YieldsIf P ops S oi v a ∧ wpPlan P ops Q S L r (a.put oi.dst v) w
  | (false, i) :: r, a, w => wpOp P ops Q i (fun a' w' => S w' ∧ wpPlan P ops Q S L r a' w') a w

theorem wpAnyT_of_plan {n g : Nat} {Lq : Act → World → Prop} (hsel : Region.noSelect ops = true) (hb : n = ops.size ∨ (Region.sinkB md ops n = true ∧ Region.chainB md ops n = true ∧ n < ops.size))
    (hQ : ∀ c a d v w, Q (.panic c) (Act.put a (some d) v) w → Q (.panic c) a w) :
    ∀ (l : List (Bool × Nat)) (listed : Array Bool) (a : Act) (w : World), HeadInv md ops n listed → planB md ops n g l listed = true → S w → wpPlan P ops Q S Lq l a w →
      wpAnyT P md ops Q S n (fun listed' a' w' => Region.seqB md ops g n listed' = true ∧ Lq a' w') l.length listed a w
  | [], listed, a, w, inv, hB, hS, h => ⟨by simpa [planB] using hB, h⟩
  | (true, i) :: r, listed, a, w, inv, hB, hS, h => by
    simp only [planB, Bool.and_eq_true, decide_eq_true_eq] at hB
    obtain ⟨⟨⟨hin, hr⟩, hf⟩, hB'⟩ := hB
    obtain ⟨oi, v, hoi, hy, hK⟩ := h
    have hr' : i ∈ Region.ready md ops listed := by simpa using hr
    exact wpAnyT_first hoi (Region.noSelect_spec hsel) hb hin (fun listed' a' w' hL => seqB_ready hL.1) (fun c a w h => by cases hd : oi.dst with | none => rw [hd] at h; exact h | some d => rw [hd] at h; exact hQ c a d _ w h) r.length listed a w inv (Region.free_spec hoi hf) hr' hy hS
      (wpAnyT_of_plan hsel hb hQ r _ _ w (inv.set hr' hin) hB' hS hK)
  | (false, i) :: r, listed, a, w, inv, hB, hS, h => by
    simp only [planB, Bool.and_eq_true, decide_eq_true_eq] at hB
    obtain ⟨⟨hin, hr⟩, hB'⟩ := hB
    have hr' : i ∈ Region.ready md ops listed := by rw [hr]; simp
    refine ⟨fun h0 => (by rw [h0] at hr'; cases hr'), fun j hj => ?_⟩
    rw [hr] at hj
    have hji : j = i := by simpa using hj
    subst hji
    exact ⟨hin, wpOp_mono (fun a' w' h3 => ⟨h3.1, wpAnyT_of_plan hsel hb hQ r _ a' w' (inv.set hr' hin) hB' h3.1 h3.2⟩) h⟩

def goodB (md : Region.Mode) (ops : Array Oper) (n : Nat) (l : List (Bool × Nat)) : Bool :=
  Region.noSelect ops && (decide (n = ops.size) || (decide (n < ops.size) && Region.sinkB md ops n && Region.chainB md ops n)) && decide (l.length = n) && planB md ops n (ops.size - n) l (Array.replicate ops.size false)

/-- Behind a step: what follows at the normal end; else as it was. -/
def PlanPost (Q : Exit → Act → World → Prop) (C : Act → World → Prop) : Exit → Act → World → Prop
  | .normal, a, w => C a w
  | e, a, w => Q e a w
theorem Oper.wp_planPost {o : Oper} {a : Act} {w : World} {K C : Act → World → Prop} (h : o.wp P a w K (PlanPost Q C)) : o.wp P a w K Q := by
  unfold Oper.wp at *
  generalize (execOp a.eval o).run P w = r at *
  cases r with
  | ok n w' =>
    cases n <;> simp only [Oper.upon] at h ⊢ <;>
      first
        | exact h
        | exact Calls.mono h (fun e w'' he => by cases e <;> exact he)
  | halt x w' => cases x <;> simp only [Oper.upon] at h ⊢ <;> exact h
/-- The plan with the operations written out: the prover's goals. -/
def pick (l : List Oper) : List (Bool × Nat) → List (Bool × Oper)
  | [] => []
  | (b, i) :: r => (b, (l[i]?).getD ⟨none, .ready 0, 0, "", #[], none⟩) :: pick l r
def inB (l : List Oper) (pl : List (Bool × Nat)) : Bool := pl.all fun x => decide (x.2 < l.length)
def wpPicked (P : Program) (ops : Array Oper) (Q : Exit → Act → World → Prop) (S : World → Prop) (L : Act → World → Prop) : List (Bool × Oper) → Act → World → Prop
  | [], a, w => L a w
  | (true, o) :: r, a, w => ∃ v, YieldsIf P ops S o v a ∧ wpPicked P ops Q S L r (a.put o.dst v) w
  | (false, o) :: r, a, w => wpList P ops (PlanPost Q (fun a w => S w ∧ wpPicked P ops Q S L r a w)) [o] a w

theorem wpPlan_of_picked {l : List Oper} {L : Act → World → Prop} : ∀ (pl : List (Bool × Nat)) (a : Act) (w : World), inB l pl = true → wpPicked P l.toArray Q S L (pick l pl) a w → wpPlan P l.toArray Q S L pl a w
  | [], _, _, _, h => h
  | (b, i) :: r, a, w, hB, h => by
    simp only [inB, List.all_cons, Bool.and_eq_true, decide_eq_true_eq] at hB
    obtain ⟨hi, hr⟩ := hB
    have hr' : inB l r = true := hr
    have ho : l[i]? = some l[i] := List.getElem?_eq_getElem hi
    have ho' : l.toArray[i]? = some l[i] := by simp
    cases b with
    | true =>
      simp only [pick, ho, Option.getD_some, wpPicked] at h
      obtain ⟨v, hy, hK⟩ := h
      exact ⟨l[i], v, ho', hy, wpPlan_of_picked r _ w hr' hK⟩
    | false =>
      simp only [pick, ho, Option.getD_some, wpPicked, wpList] at h
      unfold wpPlan wpOp
      simp only [ho']
      split
      · rename_i hw
        rw [if_pos hw] at h
        exact h.imp (fun h => Oper.wp_mono (fun a' w' h' => ⟨h'.1, wpPlan_of_picked r a' w' hr' h'.2⟩) (Oper.wp_planPost h)) id
      · rename_i hw
        rw [if_neg hw] at h
        exact ⟨h.1, wpPlan_of_picked r _ w hr' h.2⟩

/-- THE LAW. -/
theorem wp_region_plan {id : Nat} {a : Act} {w : World} {l : List Oper} (S : World → Prop) (n : Nat) (pl : List (Bool × Nat)) (hm : P.follows .mixedOrders = true) (hB : goodB .any l.toArray n pl = true) (hI : inB l pl = true)
    (hQ : ∀ c a d v w, Q (.panic c) (Act.put a (some d) v) w → Q (.panic c) a w) (hS : S w.drew)
    (h : S w.drew → wpPicked P l.toArray Q S (wpList P l.toArray Q (l.drop n)) (pick l pl) a w.drew) : (Code.region id l.toArray true).wp P Q a w := by
  simp only [goodB, Bool.and_eq_true, Bool.or_eq_true, decide_eq_true_eq] at hB
  obtain ⟨⟨⟨hsel, hb⟩, hlen⟩, hpl⟩ := hB
  have hb' : n = l.toArray.size ∨ (Region.sinkB .any l.toArray n = true ∧ Region.chainB .any l.toArray n = true ∧ n < l.toArray.size) := hb.imp (fun h => h) fun h => ⟨h.1.2, h.2, h.1.1⟩
  have hn : n ≤ l.toArray.size := by rcases hb' with h | h <;> omega
  have hn' : n ≤ l.length := by simpa using hn
  have hdl : (l.drop n).length = l.toArray.size - n := by simp
  have inv0 : HeadInv .any l.toArray n (Array.replicate l.toArray.size false) :=
    ⟨by simp, fun j oj _ hl => (by rw [getD_replicate_false] at hl; cases hl), fun t _ ht => getD_in (by simpa using ht) (getD_replicate_false _ _)⟩
  have H := wpAnyT_of_plan (md := .any) (g := l.toArray.size - n) hsel hb' hQ pl _ a w.drew inv0 hpl hS (wpPlan_of_picked pl a w.drew hI (h hS))
  refine wp_region_any hm ?_
  have := wpAny_of_T (Q := Q) (g := l.toArray.size - n) (fun listed a' w' hL => by
    have := wpAny_of_seq (md := .any) (Q' := Q) (l.drop n) n listed a' w' (fun j => by simp [List.getElem?_drop]) (by rw [hdl]; exact hL.1) hL.2
    rwa [hdl] at this) _ _ _ _ H
  rw [hlen, show n + (l.toArray.size - n) = l.toArray.size by omega] at this
  exact this

/-- A take. -/
theorem take {L : Act → World → Prop} {o : Oper} {v : Value} {r : List (Bool × Oper)} {a a' : Act} {w : World} (hw : Region.wanted o (yielded ops a.tmps) = true)
    (hy : ∀ w, S w → (execOp a.eval o).run P w = .ok (.value v) w) (hput : a.put o.dst v = a') (h : wpPicked P ops Q S L r a' w) : wpPicked P ops Q S L ((true, o) :: r) a w := ⟨v, .inl ⟨hw, hy⟩, hput ▸ h⟩
/-- An operation whose guard says no. -/
theorem pass {L : Act → World → Prop} {o : Oper} {r : List (Bool × Oper)} {a a' : Act} {w : World} (hw : Region.wanted o (yielded ops a.tmps) = false)
    (hput : a.put o.dst undef = a') (h : wpPicked P ops Q S L r a' w) : wpPicked P ops Q S L ((true, o) :: r) a w := ⟨undef, .inr ⟨hw, rfl⟩, hput ▸ h⟩
/-- Whether an operation is wanted, told by its guard's slot alone. -/
theorem want_all {o : Oper} {y : Nat → Option Bool} (h : o.guard = none) : Region.wanted o y = true := by unfold Region.wanted; rw [h]
theorem want_yes {o oj : Oper} {ops : Array Oper} {tmps : Array Value} {j d : Nat} {b : Bool} (h : o.guard = some (j, b)) (h1 : ops[j]? = some oj) (h2 : oj.dst = some d) (h3 : tmps[d]? = some (.bool b)) : Region.wanted o (yielded ops tmps) = true := by
  unfold Region.wanted yielded
  rw [h]
  simp [h1, h2, h3]
theorem want_no {o oj : Oper} {ops : Array Oper} {tmps : Array Value} {j d : Nat} {b : Bool} (h : o.guard = some (j, b)) (h1 : ops[j]? = some oj) (h2 : oj.dst = some d) (h3 : tmps[d]? = some (.bool (!b))) : Region.wanted o (yielded ops tmps) = false := by
  unfold Region.wanted yielded
  rw [h]
  cases b <;> simp_all
theorem want_un {o oj : Oper} {ops : Array Oper} {tmps : Array Value} {j d : Nat} {b : Bool} (h : o.guard = some (j, b)) (h1 : ops[j]? = some oj) (h2 : oj.dst = some d) (h3 : tmps[d]? = some undef) : Region.wanted o (yielded ops tmps) = false := by
  unfold Region.wanted yielded
  rw [h]
  simp [h1, h2, h3, undef]
/-! Short names, for what is printed often. -/
theorem l1 {α : Type} (l : List α) (i : Nat) (a : α) : l.toArray.setIfInBounds i a = (l.set i a).toArray := List.setIfInBounds_toArray ..
theorem l2 {α : Type} (l : List α) (a b : α) : (a :: l).set 0 b = b :: l := rfl
theorem l3 {α : Type} (l : List α) (i : Nat) (a b : α) : (a :: l).set (i + 1) b = a :: l.set i b := rfl
theorem g1 {α : Type} (l : List α) (a : α) : (a :: l)[0]? = some a := List.getElem?_cons_zero
theorem g2 {α : Type} (l : List α) (i : Nat) (a : α) : (a :: l)[i + 1]? = l[i]? := List.getElem?_cons_succ
theorem tA {L : Act → World → Prop} {o : Oper} {v : Value} {r : List (Bool × Oper)} {a a' : Act} {w : World} (h : wpPicked P ops Q S L r a' w) (hg : o.guard = none := by rfl)
    (hy : ∀ w, S w → (execOp a.eval o).run P w = .ok (.value v) w := by intro w' hS'; (try dsimp only at hS'); go_simp; try with_reducible rfl)
    (hput : a.put o.dst v = a' := by simp only [Act.put, Plan.l1, Plan.l2, Plan.l3]; try with_reducible rfl) : wpPicked P ops Q S L ((true, o) :: r) a w := take (want_all hg) hy hput h
theorem tY {L : Act → World → Prop} {o oj : Oper} {j d : Nat} {b : Bool} {v : Value} {r : List (Bool × Oper)} {a a' : Act} {w : World} (h : wpPicked P ops Q S L r a' w)
    (hg : o.guard = some (j, b) := by rfl) (h1 : ops[j]? = some oj := by rfl) (h2 : oj.dst = some d := by rfl) (h3 : a.tmps[d]? = some (.bool b) := by rfl)
    (hy : ∀ w, S w → (execOp a.eval o).run P w = .ok (.value v) w := by intro w' hS'; (try dsimp only at hS'); go_simp; try with_reducible rfl)
    (hput : a.put o.dst v = a' := by simp only [Act.put, Plan.l1, Plan.l2, Plan.l3]; try with_reducible rfl) : wpPicked P ops Q S L ((true, o) :: r) a w := take (want_yes hg h1 h2 h3) hy hput h
theorem pN {L : Act → World → Prop} {o oj : Oper} {j d : Nat} {b : Bool} {r : List (Bool × Oper)} {a a' : Act} {w : World} (h : wpPicked P ops Q S L r a' w)
    (hg : o.guard = some (j, b) := by rfl) (h1 : ops[j]? = some oj := by rfl) (h2 : oj.dst = some d := by rfl) (h3 : a.tmps[d]? = some (.bool (!b)) := by rfl)
    (hput : a.put o.dst undef = a' := by simp only [Act.put, Plan.l1, Plan.l2, Plan.l3]; try with_reducible rfl) : wpPicked P ops Q S L ((true, o) :: r) a w := pass (want_no hg h1 h2 h3) hput h
theorem pU {L : Act → World → Prop} {o oj : Oper} {j d : Nat} {b : Bool} {r : List (Bool × Oper)} {a a' : Act} {w : World} (h : wpPicked P ops Q S L r a' w)
    (hg : o.guard = some (j, b) := by rfl) (h1 : ops[j]? = some oj := by rfl) (h2 : oj.dst = some d := by rfl) (h3 : a.tmps[d]? = some undef := by rfl)
    (hput : a.put o.dst undef = a' := by simp only [Act.put, Plan.l1, Plan.l2, Plan.l3]; try with_reducible rfl) : wpPicked P ops Q S L ((true, o) :: r) a w := pass (want_un hg h1 h2 h3) hput h
/-- A step: the walk's own laws and tactics serve. Behind it: 'refine ⟨S anew, ?_⟩'. -/
theorem step {L : Act → World → Prop} {o : Oper} {r : List (Bool × Oper)} {a : Act} {w : World}
    (h : wpList P ops (PlanPost Q (fun a w => S w ∧ wpPicked P ops Q S L r a w)) [o] a w) : wpPicked P ops Q S L ((false, o) :: r) a w := h
theorem fin {L : Act → World → Prop} {a : Act} {w : World} (h : L a w) : wpPicked P ops Q S L [] a w := h
end
end Go.Proofs.YtnjdepojmnniaaaGreatDoor.Plan

/- palaverref01's more and one. -/
namespace Go.Proofs.YtnjdepojmnniaaaGreatDoor
open Go Go.RowKit

theorem byteAt_get (s : ByteArray) (i : Nat) (h : i < s.size) : (s[i]'h).toNat = byteAt s i := by
  have := get_at s i h
  rw [Nat.add_zero] at this
  unfold byteAt
  rw [this]
theorem byte_idx {P : Program} (s : ByteArray) (i : Nat) (h : i < s.size) : ((s[i]'h).toNat : Int) = (byteAt s i : Int) := by rw [byteAt_get]

set_option maxRecDepth 100000 in
theorem more_yes (s : ByteArray) (i : Nat) (w : World) (h : i < s.size) (h1 : 128 ≤ byteAt s i) (h2 : byteAt s i ≤ 191) :
    Calls Tryz.prog 93 #[.string s, .int .i64 i] w fun e w' => e = .returned (.tuple #[.int .i32 ((byteAt s i : Int) - 128), .bool true]) ∧ w = w' := by
  have e := byteAt_get s i h
  have g1 : 128 ≤ ((s[i]'h).toNat : Int) := by rw [e]; omega
  have g2 : ((s[i]'h).toNat : Int) ≤ 191 := by rw [e]; omega
  have hl : (i : Int) < (s.size : Int) := by omega
  have E := hid e
  clear e h1 h2
  go_enter Tryz.func93, Tryz.ntmps93
  go_wp2_with fail
  go_ret2
  exact ⟨by rw [E.out]; rfl, rfl⟩
set_option maxRecDepth 100000 in
theorem more_no (s : ByteArray) (i : Nat) (w : World) (h : moreB s i = false) (hm : s.size ≤ 9223372036854775807) (hi : i ≤ 9223372036854775807) :
    Calls Tryz.prog 93 #[.string s, .int .i64 i] w fun e w' => e = .returned (.tuple #[.int .i32 0, .bool false]) ∧ w = w' := by
  by_cases hl : i < s.size
  · have e := byteAt_get s i hl
    have hc : byteAt s i < 128 ∨ (128 ≤ byteAt s i ∧ 191 < byteAt s i) := by
      have h' : ¬ (i < s.size ∧ 128 ≤ byteAt s i ∧ byteAt s i ≤ 191) := fun hh => by rw [(moreB_iff s i).2 hh] at h; cases h
      omega
    have hl' : (i : Int) < (s.size : Int) := by omega
    clear h
    rcases hc with h1 | ⟨h1, h2⟩
    · have g1 : ((s[i]'hl).toNat : Int) < 128 := by rw [e]; omega
      clear e h1
      go_enter Tryz.func93, Tryz.ntmps93
      go_wp2_with fail
      go_ret2
      exact ⟨rfl, rfl⟩
    · have g1 : 128 ≤ ((s[i]'hl).toNat : Int) := by rw [e]; omega
      have g2 : 191 < ((s[i]'hl).toNat : Int) := by rw [e]; omega
      clear e h1 h2
      go_enter Tryz.func93, Tryz.ntmps93
      go_wp2_with fail
      go_ret2
      exact ⟨rfl, rfl⟩
  · have hl' : (s.size : Int) ≤ (i : Int) := by omega
    clear h
    go_enter Tryz.func93, Tryz.ntmps93
    go_wp2_with fail
    go_ret2
    exact ⟨rfl, rfl⟩

theorem more_yes' (s : ByteArray) (i : Nat) (z : Int) (hz : Hid (z = (i : Int))) (w : World) (h : moreB s i = true) :
    Calls Tryz.prog 93 #[.string s, .int .i64 z] w fun e w' => e = .returned (.tuple #[.int .i32 ((byteAt s i : Int) - 128), .bool true]) ∧ w = w' := by
  have hz' := hz.out
  subst hz'
  have hm := (moreB_iff s i).1 h
  exact more_yes s i w hm.1 hm.2.1 hm.2.2
theorem more_no' (s : ByteArray) (i : Nat) (z : Int) (hz : Hid (z = (i : Int))) (w : World) (h : moreB s i = false) (hm : s.size ≤ 9223372036854775807) (hi : i ≤ 9223372036854775807) :
    Calls Tryz.prog 93 #[.string s, .int .i64 z] w fun e w' => e = .returned (.tuple #[.int .i32 0, .bool false]) ∧ w = w' := by
  have hz' := hz.out
  subst hz'
  exact more_no s i w h hm hi

end Go.Proofs.YtnjdepojmnniaaaGreatDoor
