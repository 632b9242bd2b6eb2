/- What is read as a command, as a reply, is put as the same bytes; what is put is read; no command's bytes begin another's: plain. -/
import Derived.Test.YtnjdepojmnniaaaGreatDoorQ25
import Derived.Test.YtnjdepojmnniaaaGreatDoorQ27

set_option linter.unusedSimpArgs false
set_option linter.unusedVariables false
namespace Go.Proofs.YtnjdepojmnniaaaGreatDoor
open Go

def zeroR : ReplyD := ⟨0, 0, ⟨0, 0, ⟨#[]⟩⟩⟩
def rawR (bs : List UInt8) : ReplyD × Nat × Bool :=
  match rdD bs 0 false with
  | (e, p, b) => match rdD bs p b with
    | (n, p1, b1) => match getD bs p1 b1 with
      | (v, p2, b2) => (⟨e, n, v⟩, p2, b2)
/-- The reply that bytes are, and whether they are one. -/
def getR (bs : List UInt8) : ReplyD × Bool := if (rawR bs).2.2 = false ∧ (rawR bs).2.1 = bs.length ∧ checkR (rawR bs).1 = true then ((rawR bs).1, true) else (zeroR, false)

/-! What was put is read. -/
theorem rdD_intC (l t : List UInt8) (v : Int) (hv : -9223372036854775808 ≤ v ∧ v ≤ 9223372036854775807) : rdD (l ++ (intL v ++ t)) l.length false = (v, l.length + (intL v).length, false) := by
  unfold rdD
  rw [List.drop_left', rdInt_intL v hv t]
  rfl
  rfl
theorem rtextD_textL (l t : List UInt8) (s : ByteArray) (most : Int) (h : (s.size : Int) ≤ most) (hs : s.size ≤ 1000000) : rtextD (l ++ (textL s ++ t)) l.length false most = (s.data.toList, l.length + (textL s).length, false) := by
  have es : s.data.toList.length = s.size := by rw [Array.length_toList]; rfl
  have e1 : rdD (l ++ (textL s ++ t)) l.length false = ((s.size : Int), l.length + (intL (s.size : Int)).length, false) := by
    have := rdD_intC l (s.data.toList ++ t) (s.size : Int) ⟨by omega, by omega⟩
    simpa [textL] using this
  have e2 : countD (l ++ (textL s ++ t)) l.length false most = ((s.size : Int), l.length + (intL (s.size : Int)).length, false) := by
    unfold countD
    rw [e1, if_neg (by simp [leftD, textL]; omega)]
  unfold rtextD
  rw [e2, if_neg (by simp)]
  refine Prod.ext ?_ (Prod.ext ?_ rfl)
  · show ((l ++ (textL s ++ t)).drop _).take (s.size : Int).toNat = _
    have : l ++ (textL s ++ t) = (l ++ intL (s.size : Int)) ++ (s.data.toList ++ t) := by simp [textL]
    rw [this, List.drop_left' (by simp), List.take_left' (by rw [es]; simp)]
  · show _ + (s.size : Int).toNat = _
    simp [textL]; omega
theorem str_data (s : ByteArray) : str s.data.toList = s := by obtain ⟨⟨l⟩⟩ := s; rfl
theorem getD_putL (l t : List UInt8) (v : ValD) (h : checkD v = true) (hk : I64 v.kind) (hn : I64 v.n) : getD (l ++ (putL v ++ t)) l.length false = (v, l.length + (putL v).length, false) := by
  have hs := checkD_small h
  obtain ⟨k, n, s⟩ := v
  dsimp only at hs hk hn
  have e1 : rdD (l ++ (putL ⟨k, n, s⟩ ++ t)) l.length false = (k, l.length + (intL k).length, false) := by
    have := rdD_intC l (intL n ++ textL s ++ t) k hk
    simpa [putL] using this
  have e2 : rdD (l ++ (putL ⟨k, n, s⟩ ++ t)) (l.length + (intL k).length) false = (n, l.length + (intL k).length + (intL n).length, false) := by
    have := rdD_intC (l ++ intL k) (textL s ++ t) n hn
    simpa [putL] using this
  have e3 : rtextD (l ++ (putL ⟨k, n, s⟩ ++ t)) (l.length + (intL k).length + (intL n).length) false 400 = (s.data.toList, l.length + (intL k).length + (intL n).length + (textL s).length, false) := by
    have := rtextD_textL (l ++ intL k ++ intL n) t s 400 (by omega) (by omega)
    simpa [putL, Nat.add_assoc] using this
  unfold getD
  rw [e1]; dsimp only; rw [e2]; dsimp only; rw [e3]; dsimp only
  rw [str_data, if_neg (by simp [h])]
  simp [putL]; omega

theorem size_zero {s : ByteArray} (h : s.size = 0) : s = ⟨#[]⟩ := by
  obtain ⟨⟨l⟩⟩ := s
  have : l = [] := List.eq_nil_of_length_eq_zero h
  subst this
  rfl
theorem emptyB_is {s : ByteArray} (h : emptyB s = true) : s = ⟨#[]⟩ := by
  unfold emptyB at h
  have e : s.toList = [] := by simpa using h
  rw [ByteArray.toList_eq] at e
  exact ByteArray.ext (Array.toList_inj.1 e)
theorem noneV_is {v : ValD} (h : noneV v = true) : v = ⟨0, 0, ⟨#[]⟩⟩ := by
  obtain ⟨k, n, s⟩ := v
  unfold noneV at h
  simp only [Bool.and_eq_true, beq_iff_eq] at h
  obtain ⟨⟨rfl, rfl⟩, h⟩ := h
  rw [emptyB_is h]
theorem oneD_name {l : List UInt8} {t : TokD} {k : Nat} (h : oneD l = some (t, k)) (h3 : t.kind = 3) : t.s.length ≤ 24 := by
  unfold oneD at h
  split at h
  · split at h
    · simp only [Option.some.injEq, Prod.mk.injEq] at h
      obtain ⟨rfl, _⟩ := h
      simp at h3
    · cases h
  · split at h
    · split at h
      · simp only [Option.some.injEq, Prod.mk.injEq] at h
        obtain ⟨rfl, _⟩ := h
        simp only [List.length_take]
        omega
      · cases h
    · split at h
      · split at h
        · cases h
        · split at h
          · simp only [Option.some.injEq, Prod.mk.injEq] at h
            obtain ⟨rfl, _⟩ := h
            simp at h3
          · cases h
      · split at h
        · cases h
        · simp only [Option.some.injEq, Prod.mk.injEq] at h
          obtain ⟨rfl, _⟩ := h
          simp at h3
theorem lexL_names (n : Nat) : ∀ (l : List UInt8) (p : Nat) (ts : List TokD), l.length ≤ n → lexL l p = .ok ts → ∀ t ∈ ts, t.kind = 3 → t.s.length ≤ 24 := by
  induction n with
  | zero =>
    intro l p ts hn h t ht h3
    obtain rfl := List.eq_nil_of_length_eq_zero (Nat.le_zero.1 hn)
    rw [lexL_nil] at h
    injection h with h
    subst h
    simp only [List.mem_singleton] at ht
    subst ht
    simp at h3
  | succ n ih =>
    intro l p ts hn h t ht h3
    rw [lexL.eq_def] at h
    split at h
    · injection h with h
      subst h
      simp only [List.mem_singleton] at ht
      subst ht
      simp at h3
    · rename_i hl
      split at h
      · exact ih _ _ ts (by have := drop_lt hl (wid_pos l); omega) h t ht h3
      · split at h
        · cases h
        · rename_i x k ho
          split at h
          · cases h
          · rename_i us hu
            injection h with h
            subst h
            rcases List.mem_cons.1 ht with rfl | ht
            · exact oneD_name (t := x) ho h3
            · exact ih _ _ us (by have := drop_lt (k := k - 1 + 1) hl (by omega); omega) hu t ht h3
theorem nameD_small {s : ByteArray} (h : nameD s = true) : s.size ≤ 24 := by
  unfold nameD at h
  split at h
  · rename_i hc
    obtain ⟨h0, h1, h2, h3⟩ := hc
    unfold lexR at h1 h2 h3
    have e : s.size = s.data.toList.length := Array.length_toList.symm
    split at h1
    · simp at h1
    · rename_i hlt
      rw [if_neg hlt] at h2 h3
      split at h1
      · simp at h1
      · rename_i ts hl
        rw [hl] at h2 h3
        dsimp only at h1 h2 h3
        rw [e, ← h3]
        refine lexL_names _ _ _ ts (Nat.le_refl _) hl _ ?_ h2
        rw [List.getD_eq_getElem?_getD, List.getElem?_eq_getElem (by omega)]
        exact List.getElem_mem _
  · cases h
theorem countsD_i64 {v f : Int} (h : countsD v f = true) (hf : 0 ≤ f) : f ≤ v ∧ v ≤ 1099511627776 ∧ I64 v := by
  unfold countsD at h
  simp only [Bool.and_eq_true, decide_eq_true_eq] at h
  exact ⟨h.1, h.2, by constructor <;> omega⟩
/-- What a command that may be is. -/
theorem checkC_kinds {c : CmdD} (h : checkC c = true) :
    (c.kind = 1 ∧ c = ⟨1, 0, 0, ⟨#[]⟩, 0, ⟨0, 0, ⟨#[]⟩⟩⟩) ∨
    (c.kind = 2 ∧ countsD c.session 1 = true ∧ countsD c.seq 1 = true ∧ nameD c.field = true ∧ countsD c.version 0 = true ∧ checkD c.value = true) ∨
    (c.kind = 3 ∧ countsD c.session 1 = true ∧ countsD c.seq 1 = true ∧ c = ⟨3, c.session, c.seq, ⟨#[]⟩, 0, ⟨0, 0, ⟨#[]⟩⟩⟩) ∨
    (c.kind = 4 ∧ countsD c.session 1 = true ∧ countsD c.seq 1 = true ∧ nameD c.field = true ∧ c = ⟨4, c.session, c.seq, c.field, 0, ⟨0, 0, ⟨#[]⟩⟩⟩) := by
  obtain ⟨k, se, sq, fd, vr, v⟩ := c
  unfold checkC at h
  dsimp only at h ⊢
  split at h
  · rename_i hk
    subst hk
    simp only [Bool.and_eq_true, beq_iff_eq] at h
    obtain ⟨⟨⟨⟨rfl, rfl⟩, h3⟩, rfl⟩, h5⟩ := h
    rw [emptyB_is h3, noneV_is h5]
    exact .inl ⟨rfl, rfl⟩
  · simp only [Bool.and_eq_true] at h
    obtain ⟨⟨h1, h2⟩, h3⟩ := h
    split at h3
    · rename_i hk
      simp only [Bool.and_eq_true] at h3
      exact .inr (.inl ⟨hk, h1, h2, h3.1.1, h3.1.2, h3.2⟩)
    · split at h3
      · rename_i hk
        subst hk
        simp only [Bool.and_eq_true, beq_iff_eq] at h3
        obtain ⟨⟨h4, rfl⟩, h5⟩ := h3
        rw [emptyB_is h4, noneV_is h5]
        exact .inr (.inr (.inl ⟨rfl, h1, h2, rfl⟩))
      · split at h3
        · rename_i hk
          subst hk
          simp only [Bool.and_eq_true, beq_iff_eq] at h3
          obtain ⟨⟨h4, rfl⟩, h5⟩ := h3
          rw [noneV_is h5]
          exact .inr (.inr (.inr ⟨rfl, h1, h2, h4, rfl⟩))
        · cases h3
theorem raw_one (bs : List UInt8) (p : Nat) (h : rdD bs 0 false = (1, p, false)) : rawC bs = (⟨1, 0, 0, ⟨#[]⟩, 0, ⟨0, 0, ⟨#[]⟩⟩⟩, p, false) := by
  unfold rawC
  rw [h]
  rfl
/-- A command that was put is read. -/
theorem getC_put (c : CmdD) (h : checkC c = true) (hk : I64 c.value.kind) (hn : I64 c.value.n) : getC (putC c) = (c, true) := by
  suffices hr : rawC (putC c) = (c, (putC c).length, false) by
    unfold getC
    rw [hr]
    exact if_pos ⟨rfl, rfl, h⟩
  rcases checkC_kinds h with ⟨-, rfl⟩ | ⟨h1, h2, h3, h4, h5, h6⟩ | ⟨h1, h2, h3, h4⟩ | ⟨h1, h2, h3, h4, h5⟩
  · have := rdD_intC [] [] 1 (by decide)
    simp only [List.nil_append, List.append_nil, List.length_nil, Nat.zero_add] at this
    have e0 : putC ⟨1, 0, 0, ⟨#[]⟩, 0, ⟨0, 0, ⟨#[]⟩⟩⟩ = intL 1 := by simp [putC]
    rw [e0]
    exact raw_one _ _ this
  · obtain ⟨k, se, sq, fd, vr, v⟩ := c
    dsimp only at *
    subst h1
    have e0 : putC ⟨2, se, sq, fd, vr, v⟩ = intL 2 ++ (intL se ++ (intL sq ++ (textL fd ++ (intL vr ++ putL v)))) := by simp [putC]
    rw [e0]
    have r1 := rdD_intC [] (intL se ++ (intL sq ++ (textL fd ++ (intL vr ++ putL v)))) 2 (by decide)
    have r2 := rdD_intC (intL 2) (intL sq ++ (textL fd ++ (intL vr ++ putL v))) se (countsD_i64 h2 (by decide)).2.2
    have r3 := rdD_intC (intL 2 ++ intL se) (textL fd ++ (intL vr ++ putL v)) sq (countsD_i64 h3 (by decide)).2.2
    have hf := nameD_small h4
    have r4 := rtextD_textL (intL 2 ++ intL se ++ intL sq) (intL vr ++ putL v) fd 24 (by omega) (by omega)
    have r5 := rdD_intC (intL 2 ++ intL se ++ intL sq ++ textL fd) (putL v) vr (countsD_i64 h5 (by decide)).2.2
    have r6 := getD_putL (intL 2 ++ intL se ++ intL sq ++ textL fd ++ intL vr) [] v h6 hk hn
    simp only [List.append_assoc, List.nil_append, List.append_nil, List.length_nil, List.length_append, Nat.zero_add] at r1 r2 r3 r4 r5 r6
    unfold rawC
    rw [r1]; dsimp only
    unfold raw1
    rw [if_neg (by decide), r2]; dsimp only
    rw [r3]; dsimp only
    unfold raw2
    rw [if_pos (.inl rfl)]
    simp only [Nat.add_assoc] at r4 r5 r6 ⊢
    rw [r4]; dsimp only
    unfold raw3
    rw [if_pos rfl, r5]; dsimp only
    rw [r6, str_data]
    simp only [List.length_append, Nat.add_assoc]
  · obtain ⟨k, se, sq, fd, vr, v⟩ := c
    dsimp only at *
    rw [h4]
    have e0 : putC ⟨3, se, sq, ⟨#[]⟩, 0, ⟨0, 0, ⟨#[]⟩⟩⟩ = intL 3 ++ (intL se ++ intL sq) := by simp [putC]
    rw [e0]
    have r1 := rdD_intC [] (intL se ++ intL sq) 3 (by decide)
    have r2 := rdD_intC (intL 3) (intL sq) se (countsD_i64 h2 (by decide)).2.2
    have r3 := rdD_intC (intL 3 ++ intL se) [] sq (countsD_i64 h3 (by decide)).2.2
    simp only [List.append_assoc, List.nil_append, List.append_nil, List.length_nil, List.length_append, Nat.zero_add] at r1 r2 r3
    unfold rawC
    rw [r1]; dsimp only
    unfold raw1
    rw [if_neg (by decide), r2]; dsimp only
    rw [r3]; dsimp only
    unfold raw2
    rw [if_neg (by decide)]; dsimp only
    unfold raw3
    rw [if_neg (by decide)]
    simp only [List.length_append, Nat.add_assoc]
    rfl
  · obtain ⟨k, se, sq, fd, vr, v⟩ := c
    dsimp only at *
    rw [h5]
    have e0 : putC ⟨4, se, sq, fd, 0, ⟨0, 0, ⟨#[]⟩⟩⟩ = intL 4 ++ (intL se ++ (intL sq ++ textL fd)) := by simp [putC]
    rw [e0]
    have r1 := rdD_intC [] (intL se ++ (intL sq ++ textL fd)) 4 (by decide)
    have r2 := rdD_intC (intL 4) (intL sq ++ textL fd) se (countsD_i64 h2 (by decide)).2.2
    have r3 := rdD_intC (intL 4 ++ intL se) (textL fd) sq (countsD_i64 h3 (by decide)).2.2
    have hf := nameD_small h4
    have r4 := rtextD_textL (intL 4 ++ intL se ++ intL sq) [] fd 24 (by omega) (by omega)
    simp only [List.append_assoc, List.nil_append, List.append_nil, List.length_nil, List.length_append, Nat.zero_add] at r1 r2 r3 r4
    unfold rawC
    rw [r1]; dsimp only
    unfold raw1
    rw [if_neg (by decide), r2]; dsimp only
    rw [r3]; dsimp only
    unfold raw2
    rw [if_pos (.inr rfl)]
    simp only [Nat.add_assoc] at r4 ⊢
    rw [r4]; dsimp only
    unfold raw3
    rw [if_neg (by decide), str_data]
    simp only [List.length_append, Nat.add_assoc]
theorem checkR_parts {r : ReplyD} (h : checkR r = true) : (0 ≤ r.err ∧ r.err ≤ 24) ∧ countsD r.n 0 = true ∧ checkD r.value = true := by
  unfold checkR at h
  simp only [Bool.and_eq_true, decide_eq_true_eq] at h
  exact ⟨h.1.1, h.1.2, h.2⟩
theorem getR_put (r : ReplyD) (h : checkR r = true) (hk : I64 r.value.kind) (hn : I64 r.value.n) : getR (putR r) = (r, true) := by
  suffices hr : rawR (putR r) = (r, (putR r).length, false) by
    unfold getR
    rw [hr]
    exact if_pos ⟨rfl, rfl, h⟩
  obtain ⟨h1, h2, h3⟩ := checkR_parts h
  obtain ⟨e, n, v⟩ := r
  dsimp only at *
  have e0 : putR ⟨e, n, v⟩ = intL e ++ (intL n ++ putL v) := by simp [putR]
  rw [e0]
  have r1 := rdD_intC [] (intL n ++ putL v) e ⟨by omega, by omega⟩
  have r2 := rdD_intC (intL e) (putL v) n (countsD_i64 h2 (by decide)).2.2
  have r3 := getD_putL (intL e ++ intL n) [] v h3 hk hn
  simp only [List.append_assoc, List.nil_append, List.append_nil, List.length_nil, List.length_append, Nat.zero_add] at r1 r2 r3
  unfold rawR
  rw [r1]; dsimp only
  rw [r2]; dsimp only
  rw [r3]
  simp only [List.length_append, Nat.add_assoc]

/-! What is read was put so. -/
theorem unzig_i64 {u : Nat} (h : u < 18446744073709551616) : I64 (unzig u) := by
  unfold unzig I64
  split <;> omega
theorem zigzag_unzig (u : Nat) : Lib.zigzag (unzig u) = u := by
  unfold unzig Lib.zigzag
  repeat' split
  all_goals omega
theorem rdGo_is : ∀ (f i : Nat) (l : List UInt8) (u c : Nat) (v : Int) (k : Nat), f + i = 10 → rdGo f i l u c = (some v, k) →
    ∃ x, c + (Lib.uvarint x).length = k ∧ l = Lib.uvarint x ++ l.drop (k - c) ∧ v = unzig (u + x * 128 ^ i) ∧ (0 < i → 0 < x) ∧ x < 2 * 128 ^ (9 - i)
  | 0, i, l, u, c, v, k, _, h => by unfold rdGo at h; cases h
  | f + 1, i, [], u, c, v, k, _, h => by unfold rdGo at h; cases h
  | f + 1, i, x :: l, u, c, v, k, hf, h => by
    unfold rdGo at h
    split at h
    · cases h
    · rename_i hw
      have hx := x.toNat_lt
      split at h
      · rename_i hlt
        obtain ⟨h1, rfl⟩ := Prod.mk.inj h
        refine ⟨x.toNat, ?_, ?_, ?_, fun hi => by omega, ?_⟩
        · rw [Lib.uvarint_small hlt]; rfl
        · rw [Lib.uvarint_small hlt]
          have : c + 1 - c = 1 := by omega
          rw [this]
          simp
        · rw [Nat.mod_eq_of_lt hlt] at h1
          exact (Option.some.inj h1).symm
        · by_cases hi : i = 9
          · subst hi; omega
          · have : 128 ^ 1 ≤ 128 ^ (9 - i) := Nat.pow_le_pow_right (by decide) (by omega)
            omega
      · rename_i hge
        obtain ⟨y, h1, h2, h3, h4, h5⟩ := rdGo_is f (i + 1) l _ _ v k (by omega) h
        have hy := h4 (by omega)
        have hi : i ≤ 8 := by
          rcases f with _ | f
          · unfold rdGo at h; cases h
          · omega
        have q1 : (x.toNat % 128 + 128 * y) % 128 = x.toNat % 128 := by omega
        have q2 : (x.toNat % 128 + 128 * y) / 128 = y := by omega
        have q3 : (x.toNat % 128 + 128).toUInt8 = x := by
          apply UInt8.toNat_inj.1
          rw [byte_nat _ (by omega)]
          omega
        have e : Lib.uvarint (x.toNat % 128 + 128 * y) = x :: Lib.uvarint y := by
          rw [Lib.uvarint_big (by omega), q1, q2, q3]
        refine ⟨x.toNat % 128 + 128 * y, ?_, ?_, ?_, fun _ => by omega, ?_⟩
        · rw [e, List.length_cons]; omega
        · rw [e]
          have : k - c = (k - (c + 1)) + 1 := by omega
          rw [this, List.drop_succ_cons, List.cons_append, ← h2]
        · rw [h3, Nat.pow_succ]
          congr 1
          rw [Nat.add_mul, Nat.add_assoc]
          congr 2
          rw [Nat.mul_comm 128 y, Nat.mul_assoc, Nat.mul_comm (128 ^ i) 128]
        · have : 9 - i = (9 - (i + 1)) + 1 := by omega
          rw [this, Nat.pow_succ]
          omega
theorem rdInt_is {l : List UInt8} {v : Int} {k : Nat} (h : rdInt l = (some v, k)) : l = intL v ++ l.drop k ∧ I64 v ∧ k ≤ l.length := by
  obtain ⟨x, h1, h2, h3, -, h5⟩ := rdGo_is 10 0 l 0 0 v k rfl h
  have e : 2 * 128 ^ (9 - 0) = 18446744073709551616 := by decide
  rw [e] at h5
  have h6 : v = unzig x := by rw [h3]; simp
  have hl : intL v = Lib.uvarint x := by unfold intL; rw [h6, zigzag_unzig]
  simp only [Nat.zero_add, Nat.sub_zero] at h1 h2
  refine ⟨by rw [hl]; exact h2, by rw [h6]; exact unzig_i64 h5, ?_⟩
  have := congrArg List.length h2
  rw [List.length_append] at this
  omega
theorem rdD_is {bs : List UInt8} {p q : Nat} {b : Bool} {v : Int} (h : rdD bs p b = (v, q, false)) : b = false ∧ bs.drop p = intL v ++ bs.drop q ∧ I64 v ∧ (p ≤ bs.length → q ≤ bs.length) := by
  unfold rdD at h
  rcases b with _ | _
  · simp only [Bool.false_eq_true, if_false] at h
    rcases hr : rdInt (bs.drop p) with ⟨_ | z, k⟩
    · rw [hr] at h; cases h
    · rw [hr] at h
      simp only [Prod.mk.injEq, and_true] at h
      obtain ⟨rfl, rfl⟩ := h
      obtain ⟨h1, h2, h3⟩ := rdInt_is hr
      rw [List.drop_drop] at h1
      rw [List.length_drop] at h3
      exact ⟨rfl, h1, h2, by omega⟩
  · simp at h
theorem rtextD_is {bs : List UInt8} {p q : Nat} {b : Bool} {most : Int} {s : List UInt8} (h : rtextD bs p b most = (s, q, false)) (hp : p ≤ bs.length) : b = false ∧ bs.drop p = textL (str s) ++ bs.drop q ∧ q ≤ bs.length := by
  unfold rtextD at h
  split at h
  · cases h
  · rename_i hc
    have hc' : (countD bs p b most).2.2 = false := by simpa using hc
    unfold countD at h hc'
    split at hc'
    · cases hc'
    · rename_i hn
      rw [if_neg hn] at h
      rcases hr : rdD bs p b with ⟨n, q1, b1⟩
      rw [hr] at h hn hc'
      dsimp only at h hn hc'
      subst hc'
      obtain ⟨h1, h2, h3, h4⟩ := rdD_is hr
      have hq := h4 hp
      simp only [Prod.mk.injEq, and_true] at h
      obtain ⟨rfl, rfl⟩ := h
      simp [leftD] at hn
      have hl : ((bs.drop q1).take n.toNat).length = n.toNat := by rw [List.length_take, List.length_drop]; omega
      refine ⟨h1, ?_, by omega⟩
      have e1 : ((str ((bs.drop q1).take n.toNat)).size : Int) = n := by
        show (((bs.drop q1).take n.toNat).length : Int) = n
        rw [hl]; omega
      have e2 : (str ((bs.drop q1).take n.toNat)).data.toList = (bs.drop q1).take n.toNat := rfl
      unfold textL
      rw [e1, e2, h2, List.append_assoc, ← List.drop_drop, List.take_append_drop]
theorem getD_is {bs : List UInt8} {p q : Nat} {b : Bool} {v : ValD} (h : getD bs p b = (v, q, false)) (hp : p ≤ bs.length) : b = false ∧ bs.drop p = putL v ++ bs.drop q ∧ q ≤ bs.length ∧ checkD v = true ∧ I64 v.kind ∧ I64 v.n := by
  unfold getD at h
  rcases h1 : rdD bs p b with ⟨k, q1, b1⟩
  rw [h1] at h; dsimp only at h
  rcases h2 : rdD bs q1 b1 with ⟨n, q2, b2⟩
  rw [h2] at h; dsimp only at h
  rcases h3 : rtextD bs q2 b2 400 with ⟨s, q3, b3⟩
  rw [h3] at h; dsimp only at h
  split at h
  · cases h
  · rename_i hc
    simp only [Prod.mk.injEq, and_true] at h
    obtain ⟨rfl, rfl⟩ := h
    have hb3 : b3 = false := by rcases b3 with _ | _ <;> simp_all
    subst hb3
    have hb2 : b2 = false := by
      rcases b2 with _ | _
      · rfl
      · simp [rtextD, countD, rdD] at h3
    subst hb2
    obtain ⟨g1, g2, g3, g4⟩ := rdD_is h2
    subst g1
    obtain ⟨f1, f2, f3, f4⟩ := rdD_is h1
    obtain ⟨-, e2, e3⟩ := rtextD_is h3 (g4 (f4 hp))
    refine ⟨f1, ?_, e3, by simpa using fun h => hc (.inr h), f3, g3⟩
    rw [f2, g2, e2]
    simp [putL]
theorem getC_is {bs : List UInt8} {c : CmdD} (h : getC bs = (c, true)) : bs = putC c ∧ checkC c = true ∧ CmdW c := by
  unfold getC at h
  split at h
  · rename_i hc
    obtain ⟨hb, hp, hk⟩ := hc
    obtain ⟨rfl, -⟩ := Prod.mk.inj h
    refine And.imp_right (fun h => And.intro hk h) ?_
    clear h
    revert hb hp hk
    unfold rawC
    rcases h1 : rdD bs 0 false with ⟨k, p, b⟩
    dsimp only
    rcases h2 : raw1 bs k p b with ⟨se, sq, p1, b1⟩
    dsimp only
    rcases h3 : raw2 bs k p1 b1 with ⟨fd, p2, b2⟩
    dsimp only
    rcases h4 : raw3 bs k p2 b2 with ⟨vr, v, p3, b3⟩
    dsimp only
    intro hb hp hk
    subst hb hp
    have w0 : I64 0 := by constructor <;> decide
    by_cases k1 : k = 1
    · subst k1
      unfold raw1 at h2; rw [if_pos rfl] at h2
      unfold raw2 at h3; rw [if_neg (by decide)] at h3
      unfold raw3 at h4; rw [if_neg (by decide)] at h4
      simp only [Prod.mk.injEq] at h2 h3 h4
      obtain ⟨rfl, rfl, rfl, rfl⟩ := h2
      obtain ⟨rfl, rfl, rfl⟩ := h3
      obtain ⟨rfl, rfl, rfl, rfl⟩ := h4
      obtain ⟨-, g2, g3, -⟩ := rdD_is h1
      simp at g2
      exact ⟨by simpa [putC] using g2, ⟨g3, w0, w0, w0, w0, w0, by decide, by decide⟩⟩
    · unfold raw1 at h2; rw [if_neg k1] at h2
      rcases r1 : rdD bs p b with ⟨se', q1, c1⟩
      rw [r1] at h2; dsimp only at h2
      rcases r2 : rdD bs q1 c1 with ⟨sq', q2, c2⟩
      rw [r2] at h2
      simp only [Prod.mk.injEq] at h2
      obtain ⟨rfl, rfl, rfl, rfl⟩ := h2
      by_cases k2 : k = 2
      · subst k2
        unfold raw2 at h3; rw [if_pos (.inl rfl)] at h3
        unfold raw3 at h4; rw [if_pos rfl] at h4
        rcases r3 : rdD bs p2 b2 with ⟨vr', q3, c3⟩
        rw [r3] at h4; dsimp only at h4
        rcases r4 : getD bs q3 c3 with ⟨v', q4, c4⟩
        rw [r4] at h4
        simp only [Prod.mk.injEq] at h4
        obtain ⟨rfl, rfl, rfl, rfl⟩ := h4
        have hb3 : c3 = false := by
          rcases c3 with _ | _
          · rfl
          · simp [getD, rdD, rtextD, countD] at r4
        subst hb3
        obtain ⟨i1, i2, i3, i4⟩ := rdD_is r3
        subst i1
        have hb2 : c2 = false := by
          rcases c2 with _ | _
          · rfl
          · simp [rtextD, countD, rdD] at h3
        subst hb2
        obtain ⟨j1, j2, j3, j4⟩ := rdD_is r2
        subst j1
        obtain ⟨l1, l2, l3, l4⟩ := rdD_is r1
        subst l1
        obtain ⟨-, m2, m3, m4⟩ := rdD_is h1
        have z1 := m4 (Nat.zero_le _)
        have z2 := j4 (l4 z1)
        obtain ⟨-, n2, n3⟩ := rtextD_is h3 z2
        obtain ⟨-, o2, -, o4, o5, o6⟩ := getD_is r4 (i4 n3)
        have hfd := rtextD_len bs _ _ (by decide) h3
        refine ⟨?_, ⟨m3, l3, j3, i3, o5, o6, ?_, ?_⟩⟩
        · have e0 : bs.drop 0 = bs := rfl
          rw [← e0, m2, l2, j2, n2, i2, o2, List.drop_length]
          simp [putC]
        · show fd.length ≤ _
          omega
        · have := checkD_small o4
          show v'.s.size ≤ _
          omega
      · unfold raw3 at h4; rw [if_neg k2] at h4
        simp only [Prod.mk.injEq] at h4
        obtain ⟨rfl, rfl, rfl, rfl⟩ := h4
        by_cases k4 : k = 4
        · subst k4
          unfold raw2 at h3; rw [if_pos (.inr rfl)] at h3
          have hb2 : c2 = false := by
            rcases c2 with _ | _
            · rfl
            · simp [rtextD, countD, rdD] at h3
          subst hb2
          obtain ⟨j1, j2, j3, j4⟩ := rdD_is r2
          subst j1
          obtain ⟨l1, l2, l3, l4⟩ := rdD_is r1
          subst l1
          obtain ⟨-, m2, m3, m4⟩ := rdD_is h1
          have z1 := m4 (Nat.zero_le _)
          have z2 := j4 (l4 z1)
          obtain ⟨-, n2, n3⟩ := rtextD_is h3 z2
          have hfd := rtextD_len bs _ _ (by decide) h3
          refine ⟨?_, ⟨m3, l3, j3, w0, w0, w0, ?_, by show (0 : Nat) ≤ _; decide⟩⟩
          · have e0 : bs.drop 0 = bs := rfl
            rw [← e0, m2, l2, j2, n2, List.drop_length]
            simp [putC]
          · show fd.length ≤ _
            omega
        · unfold raw2 at h3; rw [if_neg (by omega)] at h3
          simp only [Prod.mk.injEq] at h3
          obtain ⟨rfl, rfl, rfl⟩ := h3
          obtain ⟨j1, j2, j3, j4⟩ := rdD_is r2
          subst j1
          obtain ⟨l1, l2, l3, l4⟩ := rdD_is r1
          subst l1
          obtain ⟨-, m2, m3, m4⟩ := rdD_is h1
          refine ⟨?_, ⟨m3, l3, j3, w0, w0, w0, by show (0 : Nat) ≤ _; decide, by show (0 : Nat) ≤ _; decide⟩⟩
          have e0 : bs.drop 0 = bs := rfl
          rw [← e0, m2, l2, j2, List.drop_length]
          simp [putC, k1, k2, k4]
  · cases h
theorem getR_is {bs : List UInt8} {r : ReplyD} (h : getR bs = (r, true)) : bs = putR r ∧ checkR r = true ∧ ReplyW r := by
  unfold getR at h
  split at h
  · rename_i hc
    obtain ⟨hb, hp, hk⟩ := hc
    obtain ⟨rfl, -⟩ := Prod.mk.inj h
    refine And.imp_right (fun h => And.intro hk h) ?_
    clear h
    revert hb hp hk
    unfold rawR
    rcases h1 : rdD bs 0 false with ⟨e, p, b⟩
    dsimp only
    rcases h2 : rdD bs p b with ⟨n, p1, b1⟩
    dsimp only
    rcases h3 : getD bs p1 b1 with ⟨v, p2, b2⟩
    dsimp only
    intro hb hp hk
    subst hb hp
    have hb1 : b1 = false := by
      rcases b1 with _ | _
      · rfl
      · simp [getD, rdD, rtextD, countD] at h3
    subst hb1
    obtain ⟨j1, j2, j3, j4⟩ := rdD_is h2
    subst j1
    obtain ⟨-, m2, m3, m4⟩ := rdD_is h1
    obtain ⟨-, o2, -, o4, o5, o6⟩ := getD_is h3 (j4 (m4 (Nat.zero_le _)))
    refine ⟨?_, ⟨m3, j3, o5, o6, ?_⟩⟩
    · have e0 : bs.drop 0 = bs := rfl
      rw [← e0, m2, j2, o2, List.drop_length]
      simp [putR]
    · have := checkD_small o4
      show v.s.size ≤ _
      omega
  · cases h
theorem textL_pre {s s' : ByteArray} {t u : List UInt8} (h : textL s ++ t = textL s' ++ u) : s = s' ∧ t = u := by
  unfold textL at h
  simp only [List.append_assoc] at h
  have hh := intL_pre h
  clear h
  obtain ⟨e, h⟩ := hh
  have e1 : s.data.toList.length = s.size := by rw [Array.length_toList]; rfl
  have e2 : s'.data.toList.length = s'.size := by rw [Array.length_toList]; rfl
  obtain ⟨h1, h2⟩ := List.append_inj h (by omega)
  exact ⟨ByteArray.ext (Array.toList_inj.1 h1), h2⟩
theorem putL_pre {v u : ValD} {t r : List UInt8} (h : putL v ++ t = putL u ++ r) : v = u ∧ t = r := by
  obtain ⟨k, n, s⟩ := v
  obtain ⟨k', n', s'⟩ := u
  unfold putL at h
  simp only [List.append_assoc] at h
  have hh := intL_pre h
  clear h
  obtain ⟨rfl, h⟩ := hh
  have hh := intL_pre h
  clear h
  obtain ⟨rfl, h⟩ := hh
  have hh := textL_pre h
  clear h
  obtain ⟨rfl, h⟩ := hh
  exact ⟨rfl, h⟩
theorem putC_pre {c d : CmdD} (hc : checkC c = true) (hd : checkC d = true) {t u : List UInt8} (h : putC c ++ t = putC d ++ u) : c = d ∧ t = u := by
  unfold putC at h
  simp only [List.append_assoc] at h
  have hh := intL_pre h
  clear h
  obtain ⟨hk, h⟩ := hh
  have kc := checkC_kinds hc
  have kd := checkC_kinds hd
  obtain ⟨k, se, sq, fd, vr, v⟩ := c
  obtain ⟨k', se', sq', fd', vr', v'⟩ := d
  dsimp only at hk h kc kd
  subst hk
  by_cases k1 : k = 1
  · subst k1
    simp only [if_true, List.nil_append] at h
    have e1 : (⟨1, se, sq, fd, vr, v⟩ : CmdD) = ⟨1, 0, 0, ⟨#[]⟩, 0, ⟨0, 0, ⟨#[]⟩⟩⟩ := by
      rcases kc with ⟨_, e⟩ | ⟨e, _⟩ | ⟨e, _⟩ | ⟨e, _⟩
      · exact e
      all_goals omega
    have e2 : (⟨1, se', sq', fd', vr', v'⟩ : CmdD) = ⟨1, 0, 0, ⟨#[]⟩, 0, ⟨0, 0, ⟨#[]⟩⟩⟩ := by
      rcases kd with ⟨_, e⟩ | ⟨e, _⟩ | ⟨e, _⟩ | ⟨e, _⟩
      · exact e
      all_goals omega
    exact ⟨e1.trans e2.symm, h⟩
  · rw [if_neg k1, if_neg k1] at h
    simp only [List.append_assoc] at h
    have hh := intL_pre h
    clear h
    obtain ⟨rfl, h⟩ := hh
    have hh := intL_pre h
    clear h
    obtain ⟨rfl, h⟩ := hh
    by_cases k2 : k = 2
    · subst k2
      rw [if_pos rfl, if_pos rfl] at h
      simp only [List.append_assoc] at h
      have hh := textL_pre h
      clear h
      obtain ⟨rfl, h⟩ := hh
      have hh := intL_pre h
      clear h
      obtain ⟨rfl, h⟩ := hh
      have hh := putL_pre h
      clear h
      obtain ⟨rfl, h⟩ := hh
      exact ⟨rfl, h⟩
    · rw [if_neg k2, if_neg k2] at h
      by_cases k4 : k = 4
      · subst k4
        rw [if_pos rfl, if_pos rfl] at h
        have hh := textL_pre h
        clear h
        obtain ⟨rfl, h⟩ := hh
        rcases kc with ⟨e, _⟩ | ⟨e, _⟩ | ⟨e, _⟩ | ⟨_, _, _, _, e⟩
        iterate 3 omega
        rcases kd with ⟨e', _⟩ | ⟨e', _⟩ | ⟨e', _⟩ | ⟨_, _, _, _, e'⟩
        iterate 3 omega
        exact ⟨e.trans e'.symm, h⟩
      · rw [if_neg k4, if_neg k4] at h
        simp only [List.nil_append] at h
        rcases kc with ⟨e, _⟩ | ⟨e, _⟩ | ⟨e3, _, _, e⟩ | ⟨e, _⟩
        iterate 2 omega
        · rcases kd with ⟨e', _⟩ | ⟨e', _⟩ | ⟨_, _, _, e'⟩ | ⟨e', _⟩
          iterate 2 omega
          · exact ⟨e.trans e'.symm, h⟩
          · omega
        · omega
theorem putC_inj {c d : CmdD} (hc : checkC c = true) (hd : checkC d = true) (h : putC c = putC d) : c = d :=
  (putC_pre hc hd (t := []) (u := []) (by rw [h])).1
/-- Neither a piece of a command's bytes that comes first, nor these with more behind, are a command's. -/
theorem getC_cut {c : CmdD} (hc : checkC c = true) {l t : List UInt8} (h : putC c = l ++ t) (ht : t ≠ []) : (getC l).2 = false := by
  rcases hg : getC l with ⟨d, _ | _⟩
  · rfl
  · obtain ⟨h1, h2, -⟩ := getC_is hg
    rw [h1] at h
    exact absurd (putC_pre hc h2 (t := []) (u := t) (by rw [List.append_nil]; exact h)).2.symm ht
theorem getC_more {c : CmdD} (hc : checkC c = true) {t : List UInt8} (ht : t ≠ []) : (getC (putC c ++ t)).2 = false := by
  rcases hg : getC (putC c ++ t) with ⟨d, _ | _⟩
  · rfl
  · obtain ⟨h1, h2, -⟩ := getC_is hg
    exact absurd (putC_pre hc h2 (t := t) (u := []) (by rw [List.append_nil]; exact h1)).2 ht
theorem putR_inj {r q : ReplyD} (h : putR r = putR q) : r = q := by
  obtain ⟨e, n, v⟩ := r
  obtain ⟨e', n', v'⟩ := q
  unfold putR at h
  simp only [List.append_assoc] at h
  obtain ⟨rfl, h2⟩ := intL_pre h
  obtain ⟨rfl, h3⟩ := intL_pre h2
  rw [putL_inj h3]

end Go.Proofs.YtnjdepojmnniaaaGreatDoor
