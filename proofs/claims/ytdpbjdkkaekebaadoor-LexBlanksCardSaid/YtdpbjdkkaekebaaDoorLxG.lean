/- Formulas as tokens: cuts, joins, blanks: plain. -/
import Derived.Test.YtdpbjdkkaekebaaDoorLxF
namespace Go.Proofs.YtdpbjdkkaekebaaDoor
open Go

theorem one_text {l : List UInt8} {t : TokD} {k : Nat} (hl : l ≠ []) (h : oneD l = some (t, k)) : t.kind ≠ 0 ∧ ((t.kind = 3 ∨ t.kind = 4) → t.s = l.take k) := by
  unfold oneD at h
  split at h
  · split at h
    · injection h with h
      injection h with h _
      subst h
      exact ⟨by simp, fun h => by simp at h⟩
    · cases h
  · split at h
    · split at h
      · injection h with h
        injection h with h h2
        subst h
        exact ⟨by simp, fun _ => by rw [h2]⟩
      · cases h
    · split at h
      · rcases hu : unqL l with _ | ⟨u, q⟩
        · rw [hu] at h; cases h
        · rw [hu] at h
          dsimp only at h
          split at h
          · injection h with h
            injection h with h _
            subst h
            exact ⟨by simp, fun h => by simp at h⟩
          · cases h
      · split at h
        · cases h
        · injection h with h
          injection h with h h2
          subst h
          exact ⟨by simp, fun _ => by rw [h2]⟩

/-- Bytes that are blanks alone. -/
def Blank (W : List UInt8) : Prop := ∀ x q, lexL (W ++ x) q = lexL x (q + W.length) ∧ (W ≠ [] → clsL (W ++ x) = 3)
theorem Blank.nil : Blank [] := fun x q => ⟨by simp, fun h => absurd rfl h⟩
theorem Blank.app {W V : List UInt8} (h : Blank W) (g : Blank V) : Blank (W ++ V) := fun x q => by
  refine ⟨?_, fun hn => ?_⟩
  · rw [List.append_assoc, (h _ q).1, (g x _).1, List.length_append, Nat.add_assoc]
  · rw [List.append_assoc]
    by_cases hW : W = []
    · subst hW
      rw [List.nil_append]
      exact (g x q).2 (by simpa using hn)
    · exact (h _ q).2 hW
theorem Blank.piece {l : List UInt8} (hl : l ≠ []) (hc : clsL l = 3) : Blank (l.take (wid l)) := fun x q => by
  have hnb : ¬ badP l := not_bad (by omega)
  have hw := wid_le hl
  have hp := wid_pos l
  have hlen : (l.take (wid l)).length = wid l := by rw [List.length_take]; omega
  have hne : l.take (wid l) ++ x ≠ [] := by
    intro h
    have := congrArg List.length (List.append_eq_nil_iff.1 h).1
    rw [hlen, List.length_nil] at this
    omega
  have hc2 : clsL (l.take (wid l) ++ x) = 3 := by rw [cls_swap hl hnb]; exact hc
  refine ⟨?_, fun _ => hc2⟩
  rw [lexL_space hne hc2, wid_swap hl hnb, drop_swap hw, hlen]
theorem Blank.byte {c : UInt8} (h : c = 32 ∨ c = 9 ∨ c = 10) : Blank [c] := by
  have hd : Lib.decodeL [c] = (c.toNat, 1) := decode_byte c [] (by rcases h with rfl | rfl | rfl <;> decide)
  have hw : wid [c] = 1 := by unfold wid; rw [hd]
  have := Blank.piece (l := [c]) (by simp) (by unfold clsL; rw [hd]; rcases h with rfl | rfl | rfl <;> decide)
  rw [hw] at this
  exact this

/-- The tokens of L, each with its bytes, and the blanks behind it. -/
def Segs (L : List UInt8) : List TokD → Prop
  | [] => False
  | [t] => t = ⟨0, [], 0, L.length⟩
  | t :: u :: r => (∃ t0 k, oneD (L.drop t.at_) = some (t0, k) ∧ t = { t0 with at_ := t.at_ } ∧ L.drop t.at_ ≠ [] ∧ clsL (L.drop t.at_) ≠ 3 ∧ t.at_ + k ≤ u.at_ ∧ u.at_ ≤ L.length ∧ Blank ((L.drop (t.at_ + k)).take (u.at_ - (t.at_ + k)))) ∧ Segs L (u :: r)
theorem lex_segs (L : List UInt8) : ∀ (n p : Nat) (ts : List TokD), L.length - p ≤ n → p ≤ L.length → lexL (L.drop p) p = .ok ts → ∃ t r, ts = t :: r ∧ p ≤ t.at_ ∧ t.at_ ≤ L.length ∧ Blank ((L.drop p).take (t.at_ - p)) ∧ Segs L ts := by
  intro n
  induction n with
  | zero =>
    intro p ts hn hp h
    have hz : L.drop p = [] := List.drop_of_length_le (by omega)
    rw [hz, lexL_nil] at h
    injection h with h
    subst h
    obtain rfl : p = L.length := by omega
    exact ⟨_, [], rfl, Nat.le_refl _, Nat.le_refl _, by rw [Nat.sub_self, List.take_zero]; exact Blank.nil, rfl⟩
  | succ n ih =>
    intro p ts hn hp h
    by_cases hl : L.drop p = []
    · have hpl : L.length ≤ p := by simpa using hl
      rw [hl, lexL_nil] at h
      injection h with h
      subst h
      obtain rfl : p = L.length := by omega
      exact ⟨_, [], rfl, Nat.le_refl _, Nat.le_refl _, by rw [Nat.sub_self, List.take_zero]; exact Blank.nil, rfl⟩
    · have hlt : p < L.length := by
        rcases Nat.lt_or_ge p L.length with h | h
        · exact h
        · exact absurd (List.drop_of_length_le h) hl
      have hw := wid_le hl
      have hwp := wid_pos (L.drop p)
      rw [List.length_drop] at hw
      by_cases hc : clsL (L.drop p) = 3
      · rw [lexL_space hl hc, List.drop_drop] at h
        obtain ⟨t, r, h1, h2, h3, h4, h5⟩ := ih (p + wid (L.drop p)) ts (by omega) (by omega) h
        refine ⟨t, r, h1, by omega, h3, ?_, h5⟩
        have e : (L.drop p).take (t.at_ - p) = (L.drop p).take (wid (L.drop p)) ++ (L.drop (p + wid (L.drop p))).take (t.at_ - (p + wid (L.drop p))) := by
          rw [← List.drop_drop, ← List.take_add]
          congr 1
          omega
        rw [e]
        exact (Blank.piece hl hc).app h4
      · rcases ho : oneD (L.drop p) with _ | ⟨t0, k⟩
        · rw [lexL_bad hl hc ho] at h; cases h
        · have hk := oneD_pos hl ho
          rw [List.length_drop] at hk
          rw [lexL_tok hl hc ho, List.drop_drop] at h
          rcases hr : lexL (L.drop (p + k)) (p + k) with q | us
          · rw [hr] at h; cases h
          · rw [hr] at h
            dsimp only at h
            injection h with h
            subst h
            obtain ⟨t, r, h1, h2, h3, h4, h5⟩ := ih (p + k) us (by omega) (by omega) hr
            subst h1
            refine ⟨_, _, rfl, Nat.le_refl _, by omega, by rw [Nat.sub_self, List.take_zero]; exact Blank.nil, ⟨⟨t0, k, ho, rfl, hl, hc, h2, h3, h4⟩, h5⟩⟩
theorem lex_err (L : List UInt8) : ∀ (n p q : Nat), L.length - p ≤ n → p ≤ L.length → lexL (L.drop p) p = .error q → p ≤ q ∧ q ≤ L.length := by
  intro n
  induction n with
  | zero =>
    intro p q hn hp h
    have hz : L.drop p = [] := List.drop_of_length_le (by omega)
    rw [hz, lexL_nil] at h
    cases h
  | succ n ih =>
    intro p q hn hp h
    by_cases hl : L.drop p = []
    · rw [hl, lexL_nil] at h
      cases h
    · have hw := wid_le hl
      have hwp := wid_pos (L.drop p)
      have hpos := List.length_pos_iff.2 hl
      rw [List.length_drop] at hw hpos
      by_cases hc : clsL (L.drop p) = 3
      · rw [lexL_space hl hc, List.drop_drop] at h
        have := ih (p + wid (L.drop p)) q (by omega) (by omega) h
        omega
      · rcases ho : oneD (L.drop p) with _ | ⟨t0, k⟩
        · rw [lexL_bad hl hc ho] at h
          injection h with h
          omega
        · have hk := oneD_pos hl ho
          rw [List.length_drop] at hk
          rw [lexL_tok hl hc ho, List.drop_drop] at h
          rcases hr : lexL (L.drop (p + k)) (p + k) with q' | us
          · rw [hr] at h
            injection h with h
            subst h
            have := ih (p + k) q' (by omega) (by omega) hr
            omega
          · rw [hr] at h; cases h

/-- A token's segment, and a blank behind it, is that token. -/
def endAt (L : List UInt8) : List TokD → Nat
  | [] => L.length
  | u :: _ => u.at_
def spread (L : List UInt8) : List TokD → List (List UInt8) → List UInt8
  | t :: r, b :: bs => (L.drop t.at_).take (endAt L r - t.at_) ++ b ++ spread L r bs
  | _, _ => []
def respread (L : List UInt8) : List TokD → List (List UInt8) → Nat → List TokD
  | [t], b :: _, q => [{ t with at_ := q + b.length }]
  | t :: u :: r, b :: bs, q => { t with at_ := q } :: respread L (u :: r) bs (q + (u.at_ - t.at_) + b.length)
  | _, _, _ => []
theorem spread_lex (L : List UInt8) : ∀ (ts : List TokD) (bs : List (List UInt8)) (q : Nat), Segs L ts → bs.length = ts.length → (∀ b ∈ bs, Blank b ∧ b ≠ []) → lexL (spread L ts bs) q = .ok (respread L ts bs q)
  | [], _, _, h, _, _ => h.elim
  | _ :: _, [], _, _, hb, _ => by simp at hb
  | [t], b :: bs, q, h, hb, hB => by
    have ht : t = ⟨0, [], 0, L.length⟩ := h
    subst ht
    have hs : spread L [⟨0, [], 0, L.length⟩] (b :: bs) = b ++ [] := by
      show (L.drop L.length).take (L.length - L.length) ++ b ++ spread L [] bs = b ++ []
      rw [Nat.sub_self, List.take_zero]
      cases bs <;> rfl
    rw [hs, ((hB b (by simp)).1 [] q).1, lexL_nil]
    rfl
  | t :: u :: r, b :: bs, q, h, hb, hB => by
    obtain ⟨⟨t0, k, ho, ht, hl, hc, h1, h2, hW⟩, hS⟩ := h
    have hk := oneD_pos hl ho
    obtain ⟨hb1, hb2⟩ := hB b (by simp)
    have e : spread L (t :: u :: r) (b :: bs) = (L.drop t.at_).take k ++ (((L.drop (t.at_ + k)).take (u.at_ - (t.at_ + k)) ++ b) ++ spread L (u :: r) bs) := by
      show (L.drop t.at_).take (u.at_ - t.at_) ++ b ++ spread L (u :: r) bs = _
      have e2 : (L.drop t.at_).take (u.at_ - t.at_) = (L.drop t.at_).take k ++ (L.drop (t.at_ + k)).take (u.at_ - (t.at_ + k)) := by
        rw [← List.drop_drop, ← List.take_add]
        congr 1
        omega
      rw [e2]
      simp only [List.append_assoc]
    have hBl : Blank ((L.drop (t.at_ + k)).take (u.at_ - (t.at_ + k)) ++ b) := hW.app hb1
    have hne : (L.drop (t.at_ + k)).take (u.at_ - (t.at_ + k)) ++ b ≠ [] := by simp [hb2]
    have hx := fun q' => hBl (spread L (u :: r) bs) q'
    have hlen : ((L.drop t.at_).take k).length = k := by rw [List.length_take]; omega
    obtain ⟨s1, s2⟩ := one_swap hl ho hc (fits_space (l := L.drop t.at_) (k := k) ((hx 0).2 hne))
    have hne2 : (L.drop t.at_).take k ++ (((L.drop (t.at_ + k)).take (u.at_ - (t.at_ + k)) ++ b) ++ spread L (u :: r) bs) ≠ [] := by
      intro h0
      have := congrArg List.length (List.append_eq_nil_iff.1 h0).1
      rw [hlen, List.length_nil] at this
      omega
    rw [e, lexL_tok hne2 (by rw [s2]; exact hc) s1, List.drop_left' hlen, (hx (q + k)).1, spread_lex L (u :: r) bs _ hS (by simpa using hb) (fun b' h' => hB b' (by simp [h']))]
    dsimp only
    have hWl : ((L.drop (t.at_ + k)).take (u.at_ - (t.at_ + k)) ++ b).length = (u.at_ - (t.at_ + k)) + b.length := by
      rw [List.length_append, List.length_take, List.length_drop]
      omega
    rw [hWl, show q + k + (u.at_ - (t.at_ + k) + b.length) = q + (u.at_ - t.at_) + b.length by omega]
    show _ = Except.ok ({ t with at_ := q } :: _)
    rw [ht]

end Go.Proofs.YtdpbjdkkaekebaaDoor
