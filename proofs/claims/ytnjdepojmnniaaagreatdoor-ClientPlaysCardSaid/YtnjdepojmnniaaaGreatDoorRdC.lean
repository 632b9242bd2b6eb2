/- Readers: what is left, a count, a text. (Printed by gen_rdc.py.) -/
import Derived.Test.YtnjdepojmnniaaaGreatDoorRdB
import Derived.Test.YtnjdepojmnniaaaGreatDoorQ01

set_option linter.unusedSimpArgs false
set_option linter.unusedVariables false
namespace Go.Proofs.YtnjdepojmnniaaaGreatDoor
open Go Go.RowKit

def leftD (bs : List UInt8) (p : Nat) (bad : Bool) : Nat := if bad then 0 else bs.length - p
def countD (bs : List UInt8) (p : Nat) (bad : Bool) (most : Int) : Int × Nat × Bool :=
  if (rdD bs p bad).2.2 = true ∨ (rdD bs p bad).1 < 0 ∨ most < (rdD bs p bad).1 ∨ ((leftD bs (rdD bs p bad).2.1 (rdD bs p bad).2.2 : Nat) : Int) < (rdD bs p bad).1 then (0, (rdD bs p bad).2.1, true) else rdD bs p bad
def rtextD (bs : List UInt8) (p : Nat) (bad : Bool) (most : Int) : List UInt8 × Nat × Bool :=
  if (countD bs p bad most).2.2 = true then ([], (countD bs p bad most).2.1, true) else ((bs.drop (countD bs p bad most).2.1).take (countD bs p bad most).1.toNat, (countD bs p bad most).2.1 + (countD bs p bad most).1.toNat, false)
theorem countD_ok {bs : List UInt8} {p : Nat} {bad : Bool} {most v : Int} {q : Nat} (h : countD bs p bad most = (v, q, false)) : 0 ≤ v ∧ v ≤ most ∧ q + v.toNat ≤ bs.length ∨ (0 ≤ v ∧ v ≤ most ∧ v = 0) := by
  unfold countD at h
  split at h
  · simp at h
  · rename_i hc
    rw [h] at hc
    simp [leftD] at hc
    omega
theorem RdAt.movedTo {t : TypeId} {w : World} {n : Nat} {a : Option Addr} {c : Nat} {bs : List UInt8} {p : Nat} {bad : Bool} (h : RdAt t w n a c bs p bad) (q : Nat) (hp : q ≤ bs.length) (z : Int) (hz : z = (q : Int)) : RdAt t (w.setCell ⟨n, 1, none⟩ (.int .i64 z)) n a c bs q bad := by
  subst hz
  exact ⟨heap_setCell_same w n 1 _ _ _ h.row, h.bytes.keepsL h.apart ((Keeps.refl [n] w).setCell (.inl (by simp)) _) (fun b hb => by simpa using hb), h.apart, hp, h.short⟩
/-- Of a slice of bytes a piece. -/
theorem Reads.piece1 {w : World} {a : Option Addr} {c : Nat} {bs : List UInt8} (h : Reads w 1 (.slice a bs.length c) bs.length (u8s bs)) (i m c' : Nat) (a' : Option Addr) (him : i + m ≤ bs.length) (hc : m ≤ c') (hcm : c' ≤ maxLen)
    (ha : ∀ b off, a = some ⟨b, off, none⟩ → 0 < m → a' = some ⟨b, off + i, none⟩) : Reads w 1 (.slice a' m c') m (u8s ((bs.drop i).take m)) := by
  refine ⟨by simp [u8s, List.length_take, List.length_drop]; omega, ?_⟩
  rcases h.2 with ⟨h0, _⟩ | ⟨hn, b, off, c2, hv, h1, h2, h3, hcell⟩
  · obtain rfl : m = 0 := by omega
    exact .inl ⟨rfl, _, _, rfl⟩
  · by_cases hm : m = 0
    · subst hm; exact .inl ⟨rfl, _, _, rfl⟩
    · cases hv
      refine .inr ⟨by omega, b, off + i, c', by rw [ha b off rfl (by omega)], hc, hcm, h3, fun j u hj => ?_⟩
      have := hcell (i + j) u (by
        simp [u8s, List.getElem?_take, List.getElem?_drop] at hj ⊢
        obtain ⟨hm, x, h1, h2⟩ := hj
        exact ⟨x, h1, h2⟩)
      rw [Nat.add_assoc]
      exact this

set_option maxRecDepth 100000 in
theorem wLeft_any (n : Nat) (a : Option Addr) (c : Nat) (bs : List UInt8) (p : Nat) (bad : Bool) (w : World) (h : RdAt 98 w n a c bs p bad) :
    Calls Tryz.prog 92 #[.pointer (some ⟨n, 0, none⟩)] w fun e w' => e = .returned (.int .i64 (leftD bs p bad)) ∧ Keeps [] w w' := by
  have H := hid h
  have y0 : w.cell? ⟨n, 0, none⟩ = some (.slice a bs.length c) := cell_of_block h.row 0
  have y1 : w.cell? ⟨n, 1, none⟩ = some (.int .i64 p) := cell_of_block h.row 1
  have y2 : w.cell? ⟨n, 2, none⟩ = some (.bool bad) := cell_of_block h.row 2
  have hp : (p : Int) ≤ (bs.length : Int) := by have := h.place; omega
  have hsh : (bs.length : Int) ≤ 140737488355328 := by have := h.short; omega
  have hp0 : (0 : Int) ≤ (p : Int) := by omega
  clear h
  rcases bad with _ | _
  · go_enter Tryz.func92, Tryz.ntmps92
    go_wp2_with fail
    go_quiet (fail)
    go_wp2_with fail
    go_ret
    exact ⟨by rw [show leftD bs p false = bs.length - p from rfl, show ((bs.length - p : Nat) : Int) = (bs.length : Int) - (p : Int) by omega]; rfl, Keeps.K⟩
  · go_enter Tryz.func92, Tryz.ntmps92
    go_wp2_with fail
    go_ret
    exact ⟨rfl, Keeps.K⟩

set_option maxRecDepth 100000 in
set_option maxHeartbeats 800000 in
theorem wCount_any (n : Nat) (a : Option Addr) (c : Nat) (bs : List UInt8) (p : Nat) (bad : Bool) (most : Int) (w : World) (h : RdAt 98 w n a c bs p bad) :
    Calls Tryz.prog 79 #[.pointer (some ⟨n, 0, none⟩), .int .i64 most] w (RdPost 98 n a c bs (countD bs p bad most) w) := by
  have H := hid h
  clear h
  go_enter Tryz.func79, Tryz.ntmps79
  go_wp2_with fail
  refine (rdInt_any n a c bs p bad _ (H.out.k (by exact Keeps.K))).mono ?_
  have HD : Hid (∀ v q bd, rdD bs p bad = (v, q, bd) → countD bs p bad most = if bd = true ∨ v < 0 ∨ most < v ∨ ((leftD bs q bd : Nat) : Int) < v then (0, q, true) else (v, q, bd)) := by
    intro v q bd h
    unfold countD
    rw [h]
  obtain ⟨r, hr⟩ : ∃ r, rdD bs p bad = r := ⟨_, rfl⟩
  rw [hr]
  obtain ⟨v, q, bd⟩ := r
  have HR := hid (HD.out v q bd hr)
  clear hr HD
  rintro e w1 ⟨rfl, h1, k1⟩
  have H1 : Hid (RdAt 98 w1 n a c bs q bd) := h1
  have K1 := hid k1
  have y2 : w1.cell? ⟨n, 2, none⟩ = some (.bool bd) := cell_of_block h1.row 2
  have f0 : ∀ i, w1.frozen? ⟨n, i, none⟩ = false := fun i => frozen_of_row w1 n i _ _ h1.row
  clear h1 k1
  rcases bd with _ | _
  · by_cases hv : v < 0
    · go_wp2_with fail
      go_ret
      rw [show countD bs p bad most = (0, q, true) from HR.out.trans (if_pos (by simp; omega))]
      exact ⟨rfl, (H1.out.k (by exact Keeps.K)).wrong, (K1.out.trans (G := []) (by exact Keeps.K) (fun _ _ h => by cases h)).setCell (.inl (by simp)) _⟩
    by_cases hm : most < v
    · go_wp2_with fail
      go_ret
      rw [show countD bs p bad most = (0, q, true) from HR.out.trans (if_pos (by simp; omega))]
      exact ⟨rfl, (H1.out.k (by exact Keeps.K)).wrong, (K1.out.trans (G := []) (by exact Keeps.K) (fun _ _ h => by cases h)).setCell (.inl (by simp)) _⟩
    go_wp2_with fail
    refine (wLeft_any n a c bs q false _ (H1.out.k (by exact Keeps.K))).mono ?_
    rintro e w2 ⟨rfl, k2⟩
    have K2 : Hid (Keeps [] w1 w2) := Keeps.trans (by exact Keeps.K) k2 (fun _ _ h => h)
    clear k2
    have z2 : w2.cell? ⟨n, 2, none⟩ = some (.bool false) := cell_of_block (H1.out.k K2.out).row 2
    have f2 : ∀ i, w2.frozen? ⟨n, i, none⟩ = false := fun i => frozen_of_row w2 n i _ _ (H1.out.k K2.out).row
    by_cases hl : ((leftD bs q false : Nat) : Int) < v
    · go_wp2_with fail
      go_ret
      rw [show countD bs p bad most = (0, q, true) from HR.out.trans (if_pos (.inr (.inr (.inr hl))))]
      exact ⟨rfl, ((H1.out.k K2.out).k (by exact Keeps.K)).wrong, ((K1.out.trans K2.out (fun _ _ h => by cases h)).trans (G := []) (by exact Keeps.K) (fun _ _ h => by cases h)).setCell (.inl (by simp)) _⟩
    · go_wp2_with fail
      go_ret
      rw [show countD bs p bad most = (v, q, false) from HR.out.trans (if_neg (by simp; omega))]
      exact ⟨rfl, (H1.out.k K2.out).k (by exact Keeps.K), (K1.out.trans K2.out (fun _ _ h => by cases h)).trans (G := []) (by exact Keeps.K) (fun _ _ h => by cases h)⟩
  · go_wp2_with fail
    go_ret
    rw [show countD bs p bad most = (0, q, true) from HR.out.trans (if_pos (by simp))]
    exact ⟨rfl, (H1.out.k (by exact Keeps.K)).wrong, (K1.out.trans (G := []) (by exact Keeps.K) (fun _ _ h => by cases h)).setCell (.inl (by simp)) _⟩

def wTextPost (n : Nat) (a : Option Addr) (c : Nat) (bs : List UInt8) (r : List UInt8 × Nat × Bool) (w : World) (e : Ending) (w' : World) : Prop :=
  e = .returned (.string (str r.1)) ∧ RdAt 98 w' n a c bs r.2.1 r.2.2 ∧ Keeps [n] w w'
set_option maxRecDepth 100000 in
set_option maxHeartbeats 800000 in
theorem wText_any (n : Nat) (a : Option Addr) (c : Nat) (bs : List UInt8) (p : Nat) (bad : Bool) (most : Int) (w : World) (h : RdAt 98 w n a c bs p bad) (hm : most ≤ 1000000) :
    Calls Tryz.prog 64 #[.pointer (some ⟨n, 0, none⟩), .int .i64 most] w (wTextPost n a c bs (rtextD bs p bad most) w) := by
  have H := hid h
  clear h
  go_enter Tryz.func64, Tryz.ntmps64
  go_wp2_with fail
  refine (wCount_any n a c bs p bad most _ (H.out.k (by exact Keeps.K))).mono ?_
  have HD : Hid (∀ v q bd, countD bs p bad most = (v, q, bd) → (rtextD bs p bad most = if bd = true then ([], q, true) else ((bs.drop q).take v.toNat, q + v.toNat, false)) ∧ (bd = false → 0 ≤ v ∧ v ≤ most ∧ q + v.toNat ≤ bs.length ∨ (0 ≤ v ∧ v ≤ most ∧ v = 0))) := by
    intro v q bd h
    refine ⟨?_, fun hb => ?_⟩
    · unfold rtextD
      rw [h]
    · subst hb
      exact countD_ok h
  obtain ⟨r, hr⟩ : ∃ r, countD bs p bad most = r := ⟨_, rfl⟩
  rw [hr]
  obtain ⟨v, q, bd⟩ := r
  have HR := hid (HD.out v q bd hr)
  clear hr HD
  rintro e w1 ⟨rfl, h1, k1⟩
  have H1 : Hid (RdAt 98 w1 n a c bs q bd) := h1
  have K1 := hid k1
  have y0 : w1.cell? ⟨n, 0, none⟩ = some (.slice a bs.length c) := cell_of_block h1.row 0
  have y1 : w1.cell? ⟨n, 1, none⟩ = some (.int .i64 q) := cell_of_block h1.row 1
  have y2 : w1.cell? ⟨n, 2, none⟩ = some (.bool bd) := cell_of_block h1.row 2
  have f0 : ∀ i, w1.frozen? ⟨n, i, none⟩ = false := fun i => frozen_of_row w1 n i _ _ h1.row
  have hq : (q : Int) ≤ (bs.length : Int) := by have := H1.out.place; omega
  have hsh : (bs.length : Int) ≤ 140737488355328 := by have := H1.out.short; omega
  clear h1 k1
  rcases bd with _ | _
  · have hc := HR.out.2 rfl
    obtain ⟨m, rfl⟩ : ∃ m : Nat, v = (m : Int) := ⟨v.toNat, by omega⟩
    have hm1 : (m : Int) ≤ 1000000 := by omega
    have hm0 : (0 : Int) ≤ (m : Int) := by omega
    have hq0 : (0 : Int) ≤ (q : Int) := by omega
    have hqm : (q : Int) + (m : Int) ≤ (bs.length : Int) := by omega
    clear hc
    have hwq : IntKind.i64.wrap (q : Int) = (q : Int) := by rw [IntKind.wrap_i64]; omega
    have hlen : ((bs.drop q).take m).length = m := by rw [List.length_take, List.length_drop]; omega
    have HP := hid (H1.out.bytes)
    rcases H1.out.bytes.2 with ⟨h0, _⟩ | ⟨_, b, off, c', hv, h1, h2, h3, _⟩
    · obtain rfl : m = 0 := by omega
      obtain rfl : q = 0 := by omega
      have hbl : (bs.length : Int) = 0 := by omega
      have hb0 : bs = [] := List.eq_nil_of_length_eq_zero h0
      subst hb0
      have cv : ∀ j : Nat, (convert 36 9 (.slice a 0 c)).run Tryz.prog ((w1.setCell ⟨n, 1, none⟩ (.int .i64 0)).drewN j) = .ok (.string (str [])) ((w1.setCell ⟨n, 1, none⟩ (.int .i64 0)).drewN j) := fun j => run_convert_str _ 36 9 5 _ [] Tryz.underlying36 Tryz.underlying5 Tryz.underlying9 ⟨rfl, .inl ⟨rfl, _, _, rfl⟩⟩
      have E : Hid (rtextD [] p bad most = ([], 0, false)) := HR.out.1.trans (by simp)
      rcases a with _ | a
      all_goals
        go_wp2_with fail
        go_quiet (fail)
        go_wp2_with fail
        go_ret
        rw [E.out]
        have R := H1.out.movedTo 0 (by simp) 0 (by simp)
        have KM := K1.out.setCell (p := ⟨n, 1, none⟩) (.inl (by simp)) (.int .i64 0)
        exact ⟨rfl, R.k Keeps.K, KM.trans (G := []) Keeps.K (fun _ _ h => by cases h)⟩
    · cases hv
      by_cases hcq : c = q
      · subst hcq
        obtain rfl : m = 0 := by omega
        have cv : ∀ j : Nat, (convert 36 9 (.slice (some ⟨b, off, none⟩) 0 0)).run Tryz.prog ((w1.setCell ⟨n, 1, none⟩ (.int .i64 (c : Int))).drewN j) = .ok (.string (str [])) ((w1.setCell ⟨n, 1, none⟩ (.int .i64 (c : Int))).drewN j) := fun j => run_convert_str _ 36 9 5 _ [] Tryz.underlying36 Tryz.underlying5 Tryz.underlying9 ⟨rfl, .inl ⟨rfl, _, _, rfl⟩⟩
        have E : Hid (rtextD bs p bad most = ([], c, false)) := HR.out.1.trans (by simp)
        have R := hid (H1.out.movedTo c (by omega) (c : Int) rfl)
        have KM := hid (K1.out.setCell (p := ⟨n, 1, none⟩) (.inl (by simp)) (.int .i64 (c : Int)))
        go_wp2_with fail
        go_quiet (fail)
        go_wp2_with fail
        go_ret
        rw [E.out]
        exact ⟨rfl, R.out.k Keeps.K, KM.out.trans (G := []) Keeps.K (fun _ _ h => by cases h)⟩
      have cv : ∀ j : Nat, (convert 36 9 (.slice (some ⟨b, off + q, none⟩) m (c - q))).run Tryz.prog ((w1.setCell ⟨n, 1, none⟩ (.int .i64 ((q : Int) + (m : Int)))).drewN j) = .ok (.string (str ((bs.drop q).take m))) ((w1.setCell ⟨n, 1, none⟩ (.int .i64 ((q : Int) + (m : Int)))).drewN j) := fun j => run_convert_str _ 36 9 5 _ _ Tryz.underlying36 Tryz.underlying5 Tryz.underlying9 (by
        rw [hlen]
        have r1 := Reads.piece1 HP.out q m (c - q) (some ⟨b, off + q, none⟩) (by omega) (by omega) (by omega) (by
          intro b' off' e hm
          cases e
          rfl)
        exact r1.keeps (F := [n]) (((Keeps.refl [n] w1).setCell (.inl (by simp)) _).drewN j) (fun b' hb hm => by
          simp at hm
          subst hm
          exact H1.out.apart (by omega) _ (by simpa [mem_ownB, Value.ownBlock] using hb) rfl))
      have E : Hid (rtextD bs p bad most = ((bs.drop q).take m, q + m, false)) := HR.out.1.trans (by simp)
      have R := hid (H1.out.movedTo (q + m) (by omega) ((q : Int) + (m : Int)) (by omega))
      have KM := hid (K1.out.setCell (p := ⟨n, 1, none⟩) (.inl (by simp)) (.int .i64 ((q : Int) + (m : Int))))
      go_wp2_with fail
      go_quiet (fail)
      go_wp2_with fail
      go_ret
      rw [E.out]
      exact ⟨rfl, R.out.k Keeps.K, KM.out.trans (G := []) Keeps.K (fun _ _ h => by cases h)⟩
  · go_wp2_with fail
    go_ret
    rw [show rtextD bs p bad most = ([], q, true) from HR.out.1.trans (if_pos (by simp))]
    exact ⟨rfl, H1.out.k (by exact Keeps.K), K1.out.trans (G := []) (by exact Keeps.K) (fun _ _ h => by cases h)⟩

set_option maxRecDepth 100000 in
theorem r3RLeft_any (n : Nat) (a : Option Addr) (c : Nat) (bs : List UInt8) (p : Nat) (bad : Bool) (w : World) (h : RdAt 112 w n a c bs p bad) :
    Calls Tryz.prog 113 #[.pointer (some ⟨n, 0, none⟩)] w fun e w' => e = .returned (.int .i64 (leftD bs p bad)) ∧ Keeps [] w w' := by
  have H := hid h
  have y0 : w.cell? ⟨n, 0, none⟩ = some (.slice a bs.length c) := cell_of_block h.row 0
  have y1 : w.cell? ⟨n, 1, none⟩ = some (.int .i64 p) := cell_of_block h.row 1
  have y2 : w.cell? ⟨n, 2, none⟩ = some (.bool bad) := cell_of_block h.row 2
  have hp : (p : Int) ≤ (bs.length : Int) := by have := h.place; omega
  have hsh : (bs.length : Int) ≤ 140737488355328 := by have := h.short; omega
  have hp0 : (0 : Int) ≤ (p : Int) := by omega
  clear h
  rcases bad with _ | _
  · go_enter Tryz.func113, Tryz.ntmps113
    go_wp2_with fail
    go_quiet (fail)
    go_wp2_with fail
    go_ret
    exact ⟨by rw [show leftD bs p false = bs.length - p from rfl, show ((bs.length - p : Nat) : Int) = (bs.length : Int) - (p : Int) by omega]; rfl, Keeps.K⟩
  · go_enter Tryz.func113, Tryz.ntmps113
    go_wp2_with fail
    go_ret
    exact ⟨rfl, Keeps.K⟩

set_option maxRecDepth 100000 in
set_option maxHeartbeats 800000 in
theorem r3RCount_any (n : Nat) (a : Option Addr) (c : Nat) (bs : List UInt8) (p : Nat) (bad : Bool) (most : Int) (w : World) (h : RdAt 112 w n a c bs p bad) :
    Calls Tryz.prog 99 #[.pointer (some ⟨n, 0, none⟩), .int .i64 most] w (RdPost 112 n a c bs (countD bs p bad most) w) := by
  have H := hid h
  clear h
  go_enter Tryz.func99, Tryz.ntmps99
  go_wp2_with fail
  refine (r3RInt_any n a c bs p bad _ (H.out.k (by exact Keeps.K))).mono ?_
  have HD : Hid (∀ v q bd, rdD bs p bad = (v, q, bd) → countD bs p bad most = if bd = true ∨ v < 0 ∨ most < v ∨ ((leftD bs q bd : Nat) : Int) < v then (0, q, true) else (v, q, bd)) := by
    intro v q bd h
    unfold countD
    rw [h]
  obtain ⟨r, hr⟩ : ∃ r, rdD bs p bad = r := ⟨_, rfl⟩
  rw [hr]
  obtain ⟨v, q, bd⟩ := r
  have HR := hid (HD.out v q bd hr)
  clear hr HD
  rintro e w1 ⟨rfl, h1, k1⟩
  have H1 : Hid (RdAt 112 w1 n a c bs q bd) := h1
  have K1 := hid k1
  have y2 : w1.cell? ⟨n, 2, none⟩ = some (.bool bd) := cell_of_block h1.row 2
  have f0 : ∀ i, w1.frozen? ⟨n, i, none⟩ = false := fun i => frozen_of_row w1 n i _ _ h1.row
  clear h1 k1
  rcases bd with _ | _
  · by_cases hv : v < 0
    · go_wp2_with fail
      go_ret
      rw [show countD bs p bad most = (0, q, true) from HR.out.trans (if_pos (by simp; omega))]
      exact ⟨rfl, (H1.out.k (by exact Keeps.K)).wrong, (K1.out.trans (G := []) (by exact Keeps.K) (fun _ _ h => by cases h)).setCell (.inl (by simp)) _⟩
    by_cases hm : most < v
    · go_wp2_with fail
      go_ret
      rw [show countD bs p bad most = (0, q, true) from HR.out.trans (if_pos (by simp; omega))]
      exact ⟨rfl, (H1.out.k (by exact Keeps.K)).wrong, (K1.out.trans (G := []) (by exact Keeps.K) (fun _ _ h => by cases h)).setCell (.inl (by simp)) _⟩
    go_wp2_with fail
    refine (r3RLeft_any n a c bs q false _ (H1.out.k (by exact Keeps.K))).mono ?_
    rintro e w2 ⟨rfl, k2⟩
    have K2 : Hid (Keeps [] w1 w2) := Keeps.trans (by exact Keeps.K) k2 (fun _ _ h => h)
    clear k2
    have z2 : w2.cell? ⟨n, 2, none⟩ = some (.bool false) := cell_of_block (H1.out.k K2.out).row 2
    have f2 : ∀ i, w2.frozen? ⟨n, i, none⟩ = false := fun i => frozen_of_row w2 n i _ _ (H1.out.k K2.out).row
    by_cases hl : ((leftD bs q false : Nat) : Int) < v
    · go_wp2_with fail
      go_ret
      rw [show countD bs p bad most = (0, q, true) from HR.out.trans (if_pos (.inr (.inr (.inr hl))))]
      exact ⟨rfl, ((H1.out.k K2.out).k (by exact Keeps.K)).wrong, ((K1.out.trans K2.out (fun _ _ h => by cases h)).trans (G := []) (by exact Keeps.K) (fun _ _ h => by cases h)).setCell (.inl (by simp)) _⟩
    · go_wp2_with fail
      go_ret
      rw [show countD bs p bad most = (v, q, false) from HR.out.trans (if_neg (by simp; omega))]
      exact ⟨rfl, (H1.out.k K2.out).k (by exact Keeps.K), (K1.out.trans K2.out (fun _ _ h => by cases h)).trans (G := []) (by exact Keeps.K) (fun _ _ h => by cases h)⟩
  · go_wp2_with fail
    go_ret
    rw [show countD bs p bad most = (0, q, true) from HR.out.trans (if_pos (by simp))]
    exact ⟨rfl, (H1.out.k (by exact Keeps.K)).wrong, (K1.out.trans (G := []) (by exact Keeps.K) (fun _ _ h => by cases h)).setCell (.inl (by simp)) _⟩

def r3RTextPost (n : Nat) (a : Option Addr) (c : Nat) (bs : List UInt8) (r : List UInt8 × Nat × Bool) (w : World) (e : Ending) (w' : World) : Prop :=
  e = .returned (.string (str r.1)) ∧ RdAt 112 w' n a c bs r.2.1 r.2.2 ∧ Keeps [n] w w'
set_option maxRecDepth 100000 in
set_option maxHeartbeats 800000 in
theorem r3RText_any (n : Nat) (a : Option Addr) (c : Nat) (bs : List UInt8) (p : Nat) (bad : Bool) (most : Int) (w : World) (h : RdAt 112 w n a c bs p bad) (hm : most ≤ 1000000) :
    Calls Tryz.prog 83 #[.pointer (some ⟨n, 0, none⟩), .int .i64 most] w (r3RTextPost n a c bs (rtextD bs p bad most) w) := by
  have H := hid h
  clear h
  go_enter Tryz.func83, Tryz.ntmps83
  go_wp2_with fail
  refine (r3RCount_any n a c bs p bad most _ (H.out.k (by exact Keeps.K))).mono ?_
  have HD : Hid (∀ v q bd, countD bs p bad most = (v, q, bd) → (rtextD bs p bad most = if bd = true then ([], q, true) else ((bs.drop q).take v.toNat, q + v.toNat, false)) ∧ (bd = false → 0 ≤ v ∧ v ≤ most ∧ q + v.toNat ≤ bs.length ∨ (0 ≤ v ∧ v ≤ most ∧ v = 0))) := by
    intro v q bd h
    refine ⟨?_, fun hb => ?_⟩
    · unfold rtextD
      rw [h]
    · subst hb
      exact countD_ok h
  obtain ⟨r, hr⟩ : ∃ r, countD bs p bad most = r := ⟨_, rfl⟩
  rw [hr]
  obtain ⟨v, q, bd⟩ := r
  have HR := hid (HD.out v q bd hr)
  clear hr HD
  rintro e w1 ⟨rfl, h1, k1⟩
  have H1 : Hid (RdAt 112 w1 n a c bs q bd) := h1
  have K1 := hid k1
  have y0 : w1.cell? ⟨n, 0, none⟩ = some (.slice a bs.length c) := cell_of_block h1.row 0
  have y1 : w1.cell? ⟨n, 1, none⟩ = some (.int .i64 q) := cell_of_block h1.row 1
  have y2 : w1.cell? ⟨n, 2, none⟩ = some (.bool bd) := cell_of_block h1.row 2
  have f0 : ∀ i, w1.frozen? ⟨n, i, none⟩ = false := fun i => frozen_of_row w1 n i _ _ h1.row
  have hq : (q : Int) ≤ (bs.length : Int) := by have := H1.out.place; omega
  have hsh : (bs.length : Int) ≤ 140737488355328 := by have := H1.out.short; omega
  clear h1 k1
  rcases bd with _ | _
  · have hc := HR.out.2 rfl
    obtain ⟨m, rfl⟩ : ∃ m : Nat, v = (m : Int) := ⟨v.toNat, by omega⟩
    have hm1 : (m : Int) ≤ 1000000 := by omega
    have hm0 : (0 : Int) ≤ (m : Int) := by omega
    have hq0 : (0 : Int) ≤ (q : Int) := by omega
    have hqm : (q : Int) + (m : Int) ≤ (bs.length : Int) := by omega
    clear hc
    have hwq : IntKind.i64.wrap (q : Int) = (q : Int) := by rw [IntKind.wrap_i64]; omega
    have hlen : ((bs.drop q).take m).length = m := by rw [List.length_take, List.length_drop]; omega
    have HP := hid (H1.out.bytes)
    rcases H1.out.bytes.2 with ⟨h0, _⟩ | ⟨_, b, off, c', hv, h1, h2, h3, _⟩
    · obtain rfl : m = 0 := by omega
      obtain rfl : q = 0 := by omega
      have hbl : (bs.length : Int) = 0 := by omega
      have hb0 : bs = [] := List.eq_nil_of_length_eq_zero h0
      subst hb0
      have cv : ∀ j : Nat, (convert 36 9 (.slice a 0 c)).run Tryz.prog ((w1.setCell ⟨n, 1, none⟩ (.int .i64 0)).drewN j) = .ok (.string (str [])) ((w1.setCell ⟨n, 1, none⟩ (.int .i64 0)).drewN j) := fun j => run_convert_str _ 36 9 5 _ [] Tryz.underlying36 Tryz.underlying5 Tryz.underlying9 ⟨rfl, .inl ⟨rfl, _, _, rfl⟩⟩
      have E : Hid (rtextD [] p bad most = ([], 0, false)) := HR.out.1.trans (by simp)
      rcases a with _ | a
      all_goals
        go_wp2_with fail
        go_quiet (fail)
        go_wp2_with fail
        go_ret
        rw [E.out]
        have R := H1.out.movedTo 0 (by simp) 0 (by simp)
        have KM := K1.out.setCell (p := ⟨n, 1, none⟩) (.inl (by simp)) (.int .i64 0)
        exact ⟨rfl, R.k Keeps.K, KM.trans (G := []) Keeps.K (fun _ _ h => by cases h)⟩
    · cases hv
      by_cases hcq : c = q
      · subst hcq
        obtain rfl : m = 0 := by omega
        have cv : ∀ j : Nat, (convert 36 9 (.slice (some ⟨b, off, none⟩) 0 0)).run Tryz.prog ((w1.setCell ⟨n, 1, none⟩ (.int .i64 (c : Int))).drewN j) = .ok (.string (str [])) ((w1.setCell ⟨n, 1, none⟩ (.int .i64 (c : Int))).drewN j) := fun j => run_convert_str _ 36 9 5 _ [] Tryz.underlying36 Tryz.underlying5 Tryz.underlying9 ⟨rfl, .inl ⟨rfl, _, _, rfl⟩⟩
        have E : Hid (rtextD bs p bad most = ([], c, false)) := HR.out.1.trans (by simp)
        have R := hid (H1.out.movedTo c (by omega) (c : Int) rfl)
        have KM := hid (K1.out.setCell (p := ⟨n, 1, none⟩) (.inl (by simp)) (.int .i64 (c : Int)))
        go_wp2_with fail
        go_quiet (fail)
        go_wp2_with fail
        go_ret
        rw [E.out]
        exact ⟨rfl, R.out.k Keeps.K, KM.out.trans (G := []) Keeps.K (fun _ _ h => by cases h)⟩
      have cv : ∀ j : Nat, (convert 36 9 (.slice (some ⟨b, off + q, none⟩) m (c - q))).run Tryz.prog ((w1.setCell ⟨n, 1, none⟩ (.int .i64 ((q : Int) + (m : Int)))).drewN j) = .ok (.string (str ((bs.drop q).take m))) ((w1.setCell ⟨n, 1, none⟩ (.int .i64 ((q : Int) + (m : Int)))).drewN j) := fun j => run_convert_str _ 36 9 5 _ _ Tryz.underlying36 Tryz.underlying5 Tryz.underlying9 (by
        rw [hlen]
        have r1 := Reads.piece1 HP.out q m (c - q) (some ⟨b, off + q, none⟩) (by omega) (by omega) (by omega) (by
          intro b' off' e hm
          cases e
          rfl)
        exact r1.keeps (F := [n]) (((Keeps.refl [n] w1).setCell (.inl (by simp)) _).drewN j) (fun b' hb hm => by
          simp at hm
          subst hm
          exact H1.out.apart (by omega) _ (by simpa [mem_ownB, Value.ownBlock] using hb) rfl))
      have E : Hid (rtextD bs p bad most = ((bs.drop q).take m, q + m, false)) := HR.out.1.trans (by simp)
      have R := hid (H1.out.movedTo (q + m) (by omega) ((q : Int) + (m : Int)) (by omega))
      have KM := hid (K1.out.setCell (p := ⟨n, 1, none⟩) (.inl (by simp)) (.int .i64 ((q : Int) + (m : Int))))
      go_wp2_with fail
      go_quiet (fail)
      go_wp2_with fail
      go_ret
      rw [E.out]
      exact ⟨rfl, R.out.k Keeps.K, KM.out.trans (G := []) Keeps.K (fun _ _ h => by cases h)⟩
  · go_wp2_with fail
    go_ret
    rw [show rtextD bs p bad most = ([], q, true) from HR.out.1.trans (if_pos (by simp))]
    exact ⟨rfl, H1.out.k (by exact Keeps.K), K1.out.trans (G := []) (by exact Keeps.K) (fun _ _ h => by cases h)⟩

set_option maxRecDepth 100000 in
theorem wOk_any (n : Nat) (a : Option Addr) (c : Nat) (bs : List UInt8) (p : Nat) (bad : Bool) (w : World) (h : RdAt 98 w n a c bs p bad) :
    Calls Tryz.prog 65 #[.pointer (some ⟨n, 0, none⟩)] w fun e w' => e = .returned (.bool !bad) ∧ Keeps [] w w' := by
  have y2 : w.cell? ⟨n, 2, none⟩ = some (.bool bad) := cell_of_block h.row 2
  clear h
  go_enter Tryz.func65, Tryz.ntmps65
  go_wp2_with fail
  go_ret
  exact ⟨rfl, Keeps.K⟩

set_option maxRecDepth 100000 in
theorem wFail_any (n : Nat) (a : Option Addr) (c : Nat) (bs : List UInt8) (p : Nat) (bad : Bool) (w : World) (h : RdAt 98 w n a c bs p bad) :
    Calls Tryz.prog 66 #[.pointer (some ⟨n, 0, none⟩)] w fun e w' => e = .returned (.tuple #[]) ∧ RdAt 98 w' n a c bs p true ∧ Keeps [n] w w' := by
  have H := hid h
  have f0 : ∀ i, w.frozen? ⟨n, i, none⟩ = false := fun i => frozen_of_row w n i _ _ h.row
  have y2 : w.cell? ⟨n, 2, none⟩ = some (.bool bad) := cell_of_block h.row 2
  clear h
  go_enter Tryz.func66, Tryz.ntmps66
  go_wp2_with fail
  refine bodyPost_end (v := .tuple #[]) (by simp [results, Tryz.results66, go_sem]) rfl ?_
  exact ⟨rfl, (H.out.k (by exact Keeps.K)).wrong, (Keeps.trans (F := [n]) (G := []) ((Keeps.refl [n] w)) (by exact Keeps.K) (fun _ _ h => by cases h)).setCell (.inl (by simp)) _⟩

set_option maxRecDepth 100000 in
theorem wEnd_any (n : Nat) (a : Option Addr) (c : Nat) (bs : List UInt8) (p : Nat) (bad : Bool) (w : World) (h : RdAt 98 w n a c bs p bad) :
    Calls Tryz.prog 45 #[.pointer (some ⟨n, 0, none⟩)] w fun e w' => e = .returned (.bool (!bad && p == bs.length)) ∧ Keeps [] w w' := by
  have y0 : w.cell? ⟨n, 0, none⟩ = some (.slice a bs.length c) := cell_of_block h.row 0
  have y1 : w.cell? ⟨n, 1, none⟩ = some (.int .i64 p) := cell_of_block h.row 1
  have y2 : w.cell? ⟨n, 2, none⟩ = some (.bool bad) := cell_of_block h.row 2
  have hp : ((p : Int) == (bs.length : Int)) = (p == bs.length) := by
    by_cases e : p = bs.length
    · subst e; simp
    · rw [beq_eq_false_iff_ne.2 e, beq_eq_false_iff_ne.2 (by omega)]
  have HP := hid hp
  clear h hp
  rcases bad with _ | _
  · go_enter Tryz.func45, Tryz.ntmps45
    go_wp2_with fail
    go_quiet (fail)
    go_wp2_with fail
    go_ret
    exact ⟨by first | rw [HP.out]; rfl | (have := HP.out; simp_all), Keeps.K⟩
  · go_enter Tryz.func45, Tryz.ntmps45
    go_wp2_with fail
    go_quiet (fail)
    go_wp2_with fail
    go_ret
    exact ⟨rfl, Keeps.K⟩

end Go.Proofs.YtnjdepojmnniaaaGreatDoor
