/- Joined of RdC, RdE. -/
import Derived.Test.YtbbdmmhpbeleoaaDoorQ17
import Derived.Test.YtbbdmmhpbeleoaaDoorQ01
import Derived.Test.YtbbdmmhpbeleoaaDoorQ13
import Derived.Test.YtbbdmmhpbeleoaaDoorQ14

set_option linter.unusedSimpArgs false
set_option linter.unusedVariables false

/- Readers: what is left, a count, a text. (Printed by gen_rdc.py.) -/
namespace Go.Proofs.YtbbdmmhpbeleoaaDoor
open Go Go.RowKit

def leftD (bs : List UInt8) (p : Nat) (bad : Bool) : Nat := if bad then 0 else bs.length - p
def countD (bs : List UInt8) (p : Nat) (bad : Bool) (most : Int) : Int × Nat × Bool :=
  if (rdD bs p bad).2.2 = true ∨ (rdD bs p bad).1 < 0 ∨ most < (rdD bs p bad).1 ∨ ((leftD bs (rdD bs p bad).2.1 (rdD bs p bad).2.2 : Nat) : Int) < (rdD bs p bad).1 then (0, (rdD bs p bad).2.1, true) else rdD bs p bad
def rtextD (bs : List UInt8) (p : Nat) (bad : Bool) (most : Int) : List UInt8 × Nat × Bool :=
  if (countD bs p bad most).2.2 = true then ([], (countD bs p bad most).2.1, true) else ((bs.drop (countD bs p bad most).2.1).take (countD bs p bad most).1.toNat, (countD bs p bad most).2.1 + (countD bs p bad most).1.toNat, false)
theorem countD_ok {bs : List UInt8} {p : Nat} {bad : Bool} {most v : Int} {q : Nat} (h : countD bs p bad most = (v, q, false)) : 0 ≤ v ∧ v ≤ most ∧ q + v.toNat ≤ bs.length ∨ (0 ≤ v ∧ v ≤ most ∧ v = 0) := by
  unfold countD at h
  split at h
  · simp at h
  · rename_i hc
    rw [h] at hc
    simp [leftD] at hc
    omega
theorem RdAt.movedTo {t : TypeId} {w : World} {n : Nat} {a : Option Addr} {c : Nat} {bs : List UInt8} {p : Nat} {bad : Bool} (h : RdAt t w n a c bs p bad) (q : Nat) (hp : q ≤ bs.length) (z : Int) (hz : z = (q : Int)) : RdAt t (w.setCell ⟨n, 1, none⟩ (.int .i64 z)) n a c bs q bad := by
  subst hz
  exact ⟨heap_setCell_same w n 1 _ _ _ h.row, h.bytes.keepsL h.apart ((Keeps.refl [n] w).setCell (.inl (by simp)) _) (fun b hb => by simpa using hb), h.apart, hp, h.short⟩
/-- Of a slice of bytes a piece. -/
theorem Reads.piece1 {w : World} {a : Option Addr} {c : Nat} {bs : List UInt8} (h : Reads w 1 (.slice a bs.length c) bs.length (u8s bs)) (i m c' : Nat) (a' : Option Addr) (him : i + m ≤ bs.length) (hc : m ≤ c') (hcm : c' ≤ maxLen)
    (ha : ∀ b off, a = some ⟨b, off, none⟩ → 0 < m → a' = some ⟨b, off + i, none⟩) : Reads w 1 (.slice a' m c') m (u8s ((bs.drop i).take m)) := by
  refine ⟨by simp [u8s, List.length_take, List.length_drop]; omega, ?_⟩
  rcases h.2 with ⟨h0, _⟩ | ⟨hn, b, off, c2, hv, h1, h2, h3, hcell⟩
  · obtain rfl : m = 0 := by omega
    exact .inl ⟨rfl, _, _, rfl⟩
  · by_cases hm : m = 0
    · subst hm; exact .inl ⟨rfl, _, _, rfl⟩
    · cases hv
      refine .inr ⟨by omega, b, off + i, c', by rw [ha b off rfl (by omega)], hc, hcm, h3, fun j u hj => ?_⟩
      have := hcell (i + j) u (by
        simp [u8s, List.getElem?_take, List.getElem?_drop] at hj ⊢
        obtain ⟨hm, x, h1, h2⟩ := hj
        exact ⟨x, h1, h2⟩)
      rw [Nat.add_assoc]
      exact this

set_option maxRecDepth 100000 in
theorem wLeft_any (n : Nat) (a : Option Addr) (c : Nat) (bs : List UInt8) (p : Nat) (bad : Bool) (w : World) (h : RdAt 78 w n a c bs p bad) :
    Calls Tryd.prog 57 #[.pointer (some ⟨n, 0, none⟩)] w fun e w' => e = .returned (.int .i64 (leftD bs p bad)) ∧ Keeps [] w w' := by
  have H := hid h
  have y0 : w.cell? ⟨n, 0, none⟩ = some (.slice a bs.length c) := cell_of_block h.row 0
  have y1 : w.cell? ⟨n, 1, none⟩ = some (.int .i64 p) := cell_of_block h.row 1
  have y2 : w.cell? ⟨n, 2, none⟩ = some (.bool bad) := cell_of_block h.row 2
  have hp : (p : Int) ≤ (bs.length : Int) := by have := h.place; omega
  have hsh : (bs.length : Int) ≤ 140737488355328 := by have := h.short; omega
  have hp0 : (0 : Int) ≤ (p : Int) := by omega
  clear h
  rcases bad with _ | _
  · go_enter Tryd.func57, Tryd.ntmps57
    go_wp2_with fail
    go_quiet (fail)
    go_wp2_with fail
    go_ret
    exact ⟨by rw [show leftD bs p false = bs.length - p from rfl, show ((bs.length - p : Nat) : Int) = (bs.length : Int) - (p : Int) by omega]; rfl, Keeps.K⟩
  · go_enter Tryd.func57, Tryd.ntmps57
    go_wp2_with fail
    go_ret
    exact ⟨rfl, Keeps.K⟩

set_option maxRecDepth 100000 in
set_option maxHeartbeats 800000 in
theorem wCount_any (n : Nat) (a : Option Addr) (c : Nat) (bs : List UInt8) (p : Nat) (bad : Bool) (most : Int) (w : World) (h : RdAt 78 w n a c bs p bad) :
    Calls Tryd.prog 52 #[.pointer (some ⟨n, 0, none⟩), .int .i64 most] w (RdPost 78 n a c bs (countD bs p bad most) w) := by
  have H := hid h
  clear h
  go_enter Tryd.func52, Tryd.ntmps52
  go_wp2_with fail
  refine (rdInt_any n a c bs p bad _ (H.out.k (by exact Keeps.K))).mono ?_
  have HD : Hid (∀ v q bd, rdD bs p bad = (v, q, bd) → countD bs p bad most = if bd = true ∨ v < 0 ∨ most < v ∨ ((leftD bs q bd : Nat) : Int) < v then (0, q, true) else (v, q, bd)) := by
    intro v q bd h
    unfold countD
    rw [h]
  obtain ⟨r, hr⟩ : ∃ r, rdD bs p bad = r := ⟨_, rfl⟩
  rw [hr]
  obtain ⟨v, q, bd⟩ := r
  have HR := hid (HD.out v q bd hr)
  clear hr HD
  rintro e w1 ⟨rfl, h1, k1⟩
  have H1 : Hid (RdAt 78 w1 n a c bs q bd) := h1
  have K1 := hid k1
  have y2 : w1.cell? ⟨n, 2, none⟩ = some (.bool bd) := cell_of_block h1.row 2
  have f0 : ∀ i, w1.frozen? ⟨n, i, none⟩ = false := fun i => frozen_of_row w1 n i _ _ h1.row
  clear h1 k1
  rcases bd with _ | _
  · by_cases hv : v < 0
    · go_wp2_with fail
      go_ret
      rw [show countD bs p bad most = (0, q, true) from HR.out.trans (if_pos (by simp; omega))]
      exact ⟨rfl, (H1.out.k (by exact Keeps.K)).wrong, (K1.out.trans (G := []) (by exact Keeps.K) (fun _ _ h => by cases h)).setCell (.inl (by simp)) _⟩
    by_cases hm : most < v
    · go_wp2_with fail
      go_ret
      rw [show countD bs p bad most = (0, q, true) from HR.out.trans (if_pos (by simp; omega))]
      exact ⟨rfl, (H1.out.k (by exact Keeps.K)).wrong, (K1.out.trans (G := []) (by exact Keeps.K) (fun _ _ h => by cases h)).setCell (.inl (by simp)) _⟩
    go_wp2_with fail
    refine (wLeft_any n a c bs q false _ (H1.out.k (by exact Keeps.K))).mono ?_
    rintro e w2 ⟨rfl, k2⟩
    have K2 : Hid (Keeps [] w1 w2) := Keeps.trans (by exact Keeps.K) k2 (fun _ _ h => h)
    clear k2
    have z2 : w2.cell? ⟨n, 2, none⟩ = some (.bool false) := cell_of_block (H1.out.k K2.out).row 2
    have f2 : ∀ i, w2.frozen? ⟨n, i, none⟩ = false := fun i => frozen_of_row w2 n i _ _ (H1.out.k K2.out).row
    by_cases hl : ((leftD bs q false : Nat) : Int) < v
    · go_wp2_with fail
      go_ret
      rw [show countD bs p bad most = (0, q, true) from HR.out.trans (if_pos (.inr (.inr (.inr hl))))]
      exact ⟨rfl, ((H1.out.k K2.out).k (by exact Keeps.K)).wrong, ((K1.out.trans K2.out (fun _ _ h => by cases h)).trans (G := []) (by exact Keeps.K) (fun _ _ h => by cases h)).setCell (.inl (by simp)) _⟩
    · go_wp2_with fail
      go_ret
      rw [show countD bs p bad most = (v, q, false) from HR.out.trans (if_neg (by simp; omega))]
      exact ⟨rfl, (H1.out.k K2.out).k (by exact Keeps.K), (K1.out.trans K2.out (fun _ _ h => by cases h)).trans (G := []) (by exact Keeps.K) (fun _ _ h => by cases h)⟩
  · go_wp2_with fail
    go_ret
    rw [show countD bs p bad most = (0, q, true) from HR.out.trans (if_pos (by simp))]
    exact ⟨rfl, (H1.out.k (by exact Keeps.K)).wrong, (K1.out.trans (G := []) (by exact Keeps.K) (fun _ _ h => by cases h)).setCell (.inl (by simp)) _⟩

def wTextPost (n : Nat) (a : Option Addr) (c : Nat) (bs : List UInt8) (r : List UInt8 × Nat × Bool) (w : World) (e : Ending) (w' : World) : Prop :=
  e = .returned (.string (str r.1)) ∧ RdAt 78 w' n a c bs r.2.1 r.2.2 ∧ Keeps [n] w w'
set_option maxRecDepth 100000 in
set_option maxHeartbeats 800000 in
theorem wText_any (n : Nat) (a : Option Addr) (c : Nat) (bs : List UInt8) (p : Nat) (bad : Bool) (most : Int) (w : World) (h : RdAt 78 w n a c bs p bad) (hm : most ≤ 1000000) :
    Calls Tryd.prog 39 #[.pointer (some ⟨n, 0, none⟩), .int .i64 most] w (wTextPost n a c bs (rtextD bs p bad most) w) := by
  have H := hid h
  clear h
  go_enter Tryd.func39, Tryd.ntmps39
  go_wp2_with fail
  refine (wCount_any n a c bs p bad most _ (H.out.k (by exact Keeps.K))).mono ?_
  have HD : Hid (∀ v q bd, countD bs p bad most = (v, q, bd) → (rtextD bs p bad most = if bd = true then ([], q, true) else ((bs.drop q).take v.toNat, q + v.toNat, false)) ∧ (bd = false → 0 ≤ v ∧ v ≤ most ∧ q + v.toNat ≤ bs.length ∨ (0 ≤ v ∧ v ≤ most ∧ v = 0))) := by
    intro v q bd h
    refine ⟨?_, fun hb => ?_⟩
    · unfold rtextD
      rw [h]
    · subst hb
      exact countD_ok h
  obtain ⟨r, hr⟩ : ∃ r, countD bs p bad most = r := ⟨_, rfl⟩
  rw [hr]
  obtain ⟨v, q, bd⟩ := r
  have HR := hid (HD.out v q bd hr)
  clear hr HD
  rintro e w1 ⟨rfl, h1, k1⟩
  have H1 : Hid (RdAt 78 w1 n a c bs q bd) := h1
  have K1 := hid k1
  have y0 : w1.cell? ⟨n, 0, none⟩ = some (.slice a bs.length c) := cell_of_block h1.row 0
  have y1 : w1.cell? ⟨n, 1, none⟩ = some (.int .i64 q) := cell_of_block h1.row 1
  have y2 : w1.cell? ⟨n, 2, none⟩ = some (.bool bd) := cell_of_block h1.row 2
  have f0 : ∀ i, w1.frozen? ⟨n, i, none⟩ = false := fun i => frozen_of_row w1 n i _ _ h1.row
  have hq : (q : Int) ≤ (bs.length : Int) := by have := H1.out.place; omega
  have hsh : (bs.length : Int) ≤ 140737488355328 := by have := H1.out.short; omega
  clear h1 k1
  rcases bd with _ | _
  · have hc := HR.out.2 rfl
    obtain ⟨m, rfl⟩ : ∃ m : Nat, v = (m : Int) := ⟨v.toNat, by omega⟩
    have hm1 : (m : Int) ≤ 1000000 := by omega
    have hm0 : (0 : Int) ≤ (m : Int) := by omega
    have hq0 : (0 : Int) ≤ (q : Int) := by omega
    have hqm : (q : Int) + (m : Int) ≤ (bs.length : Int) := by omega
    clear hc
    have hwq : IntKind.i64.wrap (q : Int) = (q : Int) := by rw [IntKind.wrap_i64]; omega
    have hlen : ((bs.drop q).take m).length = m := by rw [List.length_take, List.length_drop]; omega
    have HP := hid (H1.out.bytes)
    rcases H1.out.bytes.2 with ⟨h0, _⟩ | ⟨_, b, off, c', hv, h1, h2, h3, _⟩
    · obtain rfl : m = 0 := by omega
      obtain rfl : q = 0 := by omega
      have hbl : (bs.length : Int) = 0 := by omega
      have hb0 : bs = [] := List.eq_nil_of_length_eq_zero h0
      subst hb0
      have cv : ∀ j : Nat, (convert 29 9 (.slice a 0 c)).run Tryd.prog ((w1.setCell ⟨n, 1, none⟩ (.int .i64 0)).drewN j) = .ok (.string (str [])) ((w1.setCell ⟨n, 1, none⟩ (.int .i64 0)).drewN j) := fun j => run_convert_str _ 29 9 5 _ [] Tryd.underlying29 Tryd.underlying5 Tryd.underlying9 ⟨rfl, .inl ⟨rfl, _, _, rfl⟩⟩
      have E : Hid (rtextD [] p bad most = ([], 0, false)) := HR.out.1.trans (by simp)
      rcases a with _ | a
      all_goals
        go_wp2_with fail
        go_quiet (fail)
        go_wp2_with fail
        go_ret
        rw [E.out]
        have R := H1.out.movedTo 0 (by simp) 0 (by simp)
        have KM := K1.out.setCell (p := ⟨n, 1, none⟩) (.inl (by simp)) (.int .i64 0)
        exact ⟨rfl, R.k Keeps.K, KM.trans (G := []) Keeps.K (fun _ _ h => by cases h)⟩
    · cases hv
      by_cases hcq : c = q
      · subst hcq
        obtain rfl : m = 0 := by omega
        have cv : ∀ j : Nat, (convert 29 9 (.slice (some ⟨b, off, none⟩) 0 0)).run Tryd.prog ((w1.setCell ⟨n, 1, none⟩ (.int .i64 (c : Int))).drewN j) = .ok (.string (str [])) ((w1.setCell ⟨n, 1, none⟩ (.int .i64 (c : Int))).drewN j) := fun j => run_convert_str _ 29 9 5 _ [] Tryd.underlying29 Tryd.underlying5 Tryd.underlying9 ⟨rfl, .inl ⟨rfl, _, _, rfl⟩⟩
        have E : Hid (rtextD bs p bad most = ([], c, false)) := HR.out.1.trans (by simp)
        have R := hid (H1.out.movedTo c (by omega) (c : Int) rfl)
        have KM := hid (K1.out.setCell (p := ⟨n, 1, none⟩) (.inl (by simp)) (.int .i64 (c : Int)))
        go_wp2_with fail
        go_quiet (fail)
        go_wp2_with fail
        go_ret
        rw [E.out]
        exact ⟨rfl, R.out.k Keeps.K, KM.out.trans (G := []) Keeps.K (fun _ _ h => by cases h)⟩
      have cv : ∀ j : Nat, (convert 29 9 (.slice (some ⟨b, off + q, none⟩) m (c - q))).run Tryd.prog ((w1.setCell ⟨n, 1, none⟩ (.int .i64 ((q : Int) + (m : Int)))).drewN j) = .ok (.string (str ((bs.drop q).take m))) ((w1.setCell ⟨n, 1, none⟩ (.int .i64 ((q : Int) + (m : Int)))).drewN j) := fun j => run_convert_str _ 29 9 5 _ _ Tryd.underlying29 Tryd.underlying5 Tryd.underlying9 (by
        rw [hlen]
        have r1 := Reads.piece1 HP.out q m (c - q) (some ⟨b, off + q, none⟩) (by omega) (by omega) (by omega) (by
          intro b' off' e hm
          cases e
          rfl)
        exact r1.keeps (F := [n]) (((Keeps.refl [n] w1).setCell (.inl (by simp)) _).drewN j) (fun b' hb hm => by
          simp at hm
          subst hm
          exact H1.out.apart (by omega) _ (by simpa [mem_ownB, Value.ownBlock] using hb) rfl))
      have E : Hid (rtextD bs p bad most = ((bs.drop q).take m, q + m, false)) := HR.out.1.trans (by simp)
      have R := hid (H1.out.movedTo (q + m) (by omega) ((q : Int) + (m : Int)) (by omega))
      have KM := hid (K1.out.setCell (p := ⟨n, 1, none⟩) (.inl (by simp)) (.int .i64 ((q : Int) + (m : Int))))
      go_wp2_with fail
      go_quiet (fail)
      go_wp2_with fail
      go_ret
      rw [E.out]
      exact ⟨rfl, R.out.k Keeps.K, KM.out.trans (G := []) Keeps.K (fun _ _ h => by cases h)⟩
  · go_wp2_with fail
    go_ret
    rw [show rtextD bs p bad most = ([], q, true) from HR.out.1.trans (if_pos (by simp))]
    exact ⟨rfl, H1.out.k (by exact Keeps.K), K1.out.trans (G := []) (by exact Keeps.K) (fun _ _ h => by cases h)⟩

set_option maxRecDepth 100000 in
theorem wOk_any (n : Nat) (a : Option Addr) (c : Nat) (bs : List UInt8) (p : Nat) (bad : Bool) (w : World) (h : RdAt 78 w n a c bs p bad) :
    Calls Tryd.prog 43 #[.pointer (some ⟨n, 0, none⟩)] w fun e w' => e = .returned (.bool !bad) ∧ Keeps [] w w' := by
  have y2 : w.cell? ⟨n, 2, none⟩ = some (.bool bad) := cell_of_block h.row 2
  clear h
  go_enter Tryd.func43, Tryd.ntmps43
  go_wp2_with fail
  go_ret
  exact ⟨rfl, Keeps.K⟩

set_option maxRecDepth 100000 in
theorem wFail_any (n : Nat) (a : Option Addr) (c : Nat) (bs : List UInt8) (p : Nat) (bad : Bool) (w : World) (h : RdAt 78 w n a c bs p bad) :
    Calls Tryd.prog 44 #[.pointer (some ⟨n, 0, none⟩)] w fun e w' => e = .returned (.tuple #[]) ∧ RdAt 78 w' n a c bs p true ∧ Keeps [n] w w' := by
  have H := hid h
  have f0 : ∀ i, w.frozen? ⟨n, i, none⟩ = false := fun i => frozen_of_row w n i _ _ h.row
  have y2 : w.cell? ⟨n, 2, none⟩ = some (.bool bad) := cell_of_block h.row 2
  clear h
  go_enter Tryd.func44, Tryd.ntmps44
  go_wp2_with fail
  refine bodyPost_end (v := .tuple #[]) (by simp [results, Tryd.results44, go_sem]) rfl ?_
  exact ⟨rfl, (H.out.k (by exact Keeps.K)).wrong, (Keeps.trans (F := [n]) (G := []) ((Keeps.refl [n] w)) (by exact Keeps.K) (fun _ _ h => by cases h)).setCell (.inl (by simp)) _⟩

set_option maxRecDepth 100000 in
theorem wEnd_any (n : Nat) (a : Option Addr) (c : Nat) (bs : List UInt8) (p : Nat) (bad : Bool) (w : World) (h : RdAt 78 w n a c bs p bad) :
    Calls Tryd.prog 25 #[.pointer (some ⟨n, 0, none⟩)] w fun e w' => e = .returned (.bool (!bad && p == bs.length)) ∧ Keeps [] w w' := by
  have y0 : w.cell? ⟨n, 0, none⟩ = some (.slice a bs.length c) := cell_of_block h.row 0
  have y1 : w.cell? ⟨n, 1, none⟩ = some (.int .i64 p) := cell_of_block h.row 1
  have y2 : w.cell? ⟨n, 2, none⟩ = some (.bool bad) := cell_of_block h.row 2
  have hp : ((p : Int) == (bs.length : Int)) = (p == bs.length) := by
    by_cases e : p = bs.length
    · subst e; simp
    · rw [beq_eq_false_iff_ne.2 e, beq_eq_false_iff_ne.2 (by omega)]
  have HP := hid hp
  clear h hp
  rcases bad with _ | _
  · go_enter Tryd.func25, Tryd.ntmps25
    go_wp2_with fail
    go_quiet (fail)
    go_wp2_with fail
    go_ret
    exact ⟨by first | rw [HP.out]; rfl | (have := HP.out; simp_all), Keeps.K⟩
  · go_enter Tryd.func25, Tryd.ntmps25
    go_wp2_with fail
    go_quiet (fail)
    go_wp2_with fail
    go_ret
    exact ⟨rfl, Keeps.K⟩

end Go.Proofs.YtbbdmmhpbeleoaaDoor

/- A new reader; a value is read. (Printed by gen_rde.py.) -/
namespace Go.Proofs.YtbbdmmhpbeleoaaDoor
open Go Go.RowKit

theorem RdAt.kk {t : TypeId} {F : List Nat} {w w' : World} {n : Nat} {a : Option Addr} {c : Nat} {bs : List UInt8} {p : Nat} {bad : Bool} (h : RdAt t w n a c bs p bad) (k : Keeps F w w') (hn : n ∉ F) (hb : ∀ b ∈ ownB (.slice a bs.length c), b ∉ F) : RdAt t w' n a c bs p bad :=
  ⟨(k.block n (Array.getElem?_eq_some_iff.1 h.row).1 hn).trans h.row, h.bytes.keeps k hb, h.apart, h.place, h.short⟩
theorem RdAt.lt {t : TypeId} {w : World} {n : Nat} {a : Option Addr} {c : Nat} {bs : List UInt8} {p : Nat} {bad : Bool} (h : RdAt t w n a c bs p bad) : n < w.heap.size := (Array.getElem?_eq_some_iff.1 h.row).1
theorem RdAt.off {t : TypeId} {F : List Nat} {w0 w w' : World} {n : Nat} {a : Option Addr} {c : Nat} {bs : List UInt8} {p p0 : Nat} {bad bad0 : Bool} (h : RdAt t w n a c bs p bad) (h0 : RdAt t w0 n a c bs p0 bad0) (k : Keeps F w w') (hF : ∀ b ∈ F, w0.heap.size ≤ b) : RdAt t w' n a c bs p bad := by
  have hn := h0.lt
  refine ⟨(k.block n h.lt (fun h => by have := hF n h; omega)).trans h.row, ?_, h.apart, h.place, h.short⟩
  refine h.bytes.keepsL (P := fun b => b < w0.heap.size) (fun hz b hb => h0.bytes.lt hz b hb) k (fun b hb hm => by have := hF b hm; omega)
/-- What is read as a value; the place behind; whether it is wrong. -/
def getD (bs : List UInt8) (p : Nat) (bad : Bool) : ValD × Nat × Bool :=
  match rdD bs p bad with
  | (k, q, b) => match rdD bs q b with
    | (n, q2, b2) => match rtextD bs q2 b2 400 with
      | (s, q3, b3) => if b3 = true ∨ checkD ⟨k, n, str s⟩ = false then (⟨0, 0, ⟨#[]⟩⟩, q3, true) else (⟨k, n, str s⟩, q3, false)
def GetPost (t : TypeId) (n : Nat) (a : Option Addr) (c : Nat) (bs : List UInt8) (r : ValD × Nat × Bool) (w : World) (e : Ending) (w' : World) : Prop :=
  e = .returned (valV r.1) ∧ RdAt t w' n a c bs r.2.1 r.2.2 ∧ Keeps [n] w w'
theorem rtextD_len (bs : List UInt8) (p : Nat) (bad : Bool) {most : Int} (hm : 0 ≤ most) {s : List UInt8} {q : Nat} {b : Bool} (h : rtextD bs p bad most = (s, q, b)) : (s.length : Int) ≤ most := by
  unfold rtextD at h
  split at h
  · simp at h; obtain ⟨rfl, _⟩ := h; simpa using hm
  · rename_i hc
    have hb : (countD bs p bad most).2.2 = false := by simpa using hc
    have hk := @countD_ok bs p bad most (countD bs p bad most).1 (countD bs p bad most).2.1 (by rw [← hb])
    simp at h
    obtain ⟨rfl, _⟩ := h
    rw [List.length_take]
    omega

set_option maxRecDepth 100000 in
theorem wNew_any (v : Value) (bs : List UInt8) (w : World) (hr : Reads w 1 v bs.length (u8s bs)) (hb : bs.length ≤ 140737488355328) : Calls Tryd.prog 22 #[v] w fun e w' =>
    ∃ n a c, e = .returned (.pointer (some ⟨n, 0, none⟩)) ∧ w.heap.size ≤ n ∧ RdAt 78 w' n a c bs 0 false ∧ Keeps [] w w' ∧ ∀ b ∈ ownB (.slice a bs.length c), w.heap.size ≤ b ∧ b < w'.heap.size := by
  obtain ⟨i0, hi, hz0, hz1, hz2⟩ := info_parts Tryd.infoU8
  go_enter Tryd.func22, Tryd.ntmps22
  go_wp2_with (at_builtin; refine wpList_append_copy _ rfl (.tmp 3) 29 rfl 5 i0 (.int .u8 0) 1 1 Tryd.underlying29 hi hz0 hz1 hz2 rfl (by decide) v bs.length (u8s bs) rfl hr (u8s_one bs) (by omega) (le_maxLen (by omega)) ?_)
  intro v' w' h1 h2
  obtain ⟨a, c, rfl⟩ := len_form h1
  have H1 := hid h1
  have K2 : Hid (Keeps [] w w') := Keeps.ofGrown h2 (fun _ h => by cases h)
  clear h1 h2
  go_wp2_with fail
  go_ret
  have G := ownB_ge H1.out
  have S := K2.out.size
  refine ⟨_, a, c, rfl, S, ⟨heap_alloc_new _ _, (Reads.ofOwn H1.out).keeps ((Keeps.refl [] w').alloc _) (fun _ _ h => by cases h), fun _ b h e => by have := (G _ h).2; omega, by omega, hb⟩, K2.out.alloc _, fun b h => ⟨(G b h).1, by have := (G b h).2; simp; omega⟩⟩

set_option maxRecDepth 100000 in
set_option maxHeartbeats 1600000 in
theorem vGet_any (n : Nat) (a : Option Addr) (c : Nat) (bs : List UInt8) (p : Nat) (bad : Bool) (w : World) (h : RdAt 78 w n a c bs p bad) (hT : ∀ w', Keeps [n] w w' → Tabs w') :
    Calls Tryd.prog 24 #[.pointer (some ⟨n, 0, none⟩)] w (GetPost 78 n a c bs (getD bs p bad) w) := by
  have HT := hid hT
  have H := hid h
  have hn := h.lt
  have f0 : True := trivial
  have fv : True := trivial
  have HG : Hid (∀ k q b m q2 b2 s q3 b3, rdD bs p bad = (k, q, b) → rdD bs q b = (m, q2, b2) → rtextD bs q2 b2 400 = (s, q3, b3) → getD bs p bad = if b3 = true ∨ checkD ⟨k, m, str s⟩ = false then (⟨0, 0, ⟨#[]⟩⟩, q3, true) else (⟨k, m, str s⟩, q3, false)) := by
    intro k q b m q2 b2 s q3 b3 e1 e2 e3
    unfold getD
    rw [e1]; dsimp only; rw [e2]; dsimp only; rw [e3]
  obtain ⟨res, hres⟩ : ∃ res, getD bs p bad = res := ⟨_, rfl⟩
  rw [hres] at HG ⊢
  clear hT h hres
  go_enter Tryd.func24, Tryd.ntmps24
  go_wp2_with fail
  refine (rdInt_any n a c bs p bad _ (H.out.k (by exact Keeps.K))).mono ?_
  obtain ⟨⟨k, q, b⟩, hr⟩ : ∃ r, rdD bs p bad = r := ⟨_, rfl⟩
  rw [hr]
  have E1 := hid hr
  clear hr
  rintro e w1 ⟨rfl, h1, k1⟩
  have H1 : Hid (RdAt 78 w1 n a c bs q b) := h1
  have r0 : w1.cell? ⟨w.heap.size, 0, none⟩ = some (.int .i64 0) := k1.cellSome (by go_simp) (by simp; omega)
  have r1 : w1.cell? ⟨w.heap.size, 1, none⟩ = some (.int .i64 0) := k1.cellSome (by go_simp) (by simp; omega)
  have r2 : w1.cell? ⟨w.heap.size, 2, none⟩ = some (.string ⟨#[]⟩) := k1.cellSome (by go_simp) (by simp; omega)
  have f0 : ∀ i, w1.frozen? ⟨w.heap.size, i, none⟩ = false := fun i => (k1.frozen (a := ⟨w.heap.size, i, none⟩) (by first | omega | (simp; done) | (simp; omega)) (by simp; omega)).trans (by first | exact f0 i | simp [f0 i] | simp)
  have K1 : Hid (Keeps [n] w w1) := Keeps.trans (F := [n]) (by exact Keeps.K) k1 (fun _ _ h => h)
  have S1 : w.heap.size < w1.heap.size := by have := k1.size; first | omega | (simp at this; omega)
  clear h1 k1
  go_wp2_with fail
  refine (rdInt_any n a c bs q b _ (H1.out.k (by exact Keeps.K))).mono ?_
  obtain ⟨⟨m, q2, b2⟩, hr⟩ : ∃ r, rdD bs q b = r := ⟨_, rfl⟩
  rw [hr]
  have E2 := hid hr
  clear hr
  rintro e w2 ⟨rfl, h1, k1⟩
  have H2 : Hid (RdAt 78 w2 n a c bs q2 b2) := h1
  have r0 : w2.cell? ⟨w.heap.size, 0, none⟩ = some (.int .i64 0) := k1.cellSome (by go_simp) (by simp; omega)
  have r1 : w2.cell? ⟨w.heap.size, 1, none⟩ = some (.int .i64 0) := k1.cellSome (by go_simp) (by simp; omega)
  have r2 : w2.cell? ⟨w.heap.size, 2, none⟩ = some (.string ⟨#[]⟩) := k1.cellSome (by go_simp) (by simp; omega)
  have f0 : ∀ i, w2.frozen? ⟨w.heap.size, i, none⟩ = false := fun i => (k1.frozen (a := ⟨w.heap.size, i, none⟩) (by first | omega | (simp; done) | (simp; omega)) (by simp; omega)).trans (by first | exact f0 i | simp [f0 i] | simp)
  have K2 : Hid (Keeps [n] w w2) := K1.out.trans (Keeps.trans (F := [n]) (by exact Keeps.K) k1 (fun _ _ h => h)) (fun _ _ h => h)
  have S2 : w.heap.size < w2.heap.size := by have := k1.size; first | omega | (simp at this; omega)
  clear h1 k1
  go_wp2_with fail
  refine (wText_any n a c bs q2 b2 400 _ (H2.out.k (by exact Keeps.K)) (by omega)).mono ?_
  obtain ⟨⟨s, q3, b3⟩, hr⟩ : ∃ r, rtextD bs q2 b2 400 = r := ⟨_, rfl⟩
  rw [hr]
  have HS := rtextD_len bs q2 b2 (by omega) hr
  have HR := hid (HG.out k q b m q2 b2 s q3 b3 E1.out E2.out hr)
  clear hr HG E1 E2
  rintro e w3 ⟨rfl, h1, k1⟩
  have H3 : Hid (RdAt 78 w3 n a c bs q3 b3) := h1
  have r0 : w3.cell? ⟨w.heap.size, 0, none⟩ = some (.int .i64 0) := k1.cellSome (by go_simp) (by simp; omega)
  have r1 : w3.cell? ⟨w.heap.size, 1, none⟩ = some (.int .i64 0) := k1.cellSome (by go_simp) (by simp; omega)
  have r2 : w3.cell? ⟨w.heap.size, 2, none⟩ = some (.string ⟨#[]⟩) := k1.cellSome (by go_simp) (by simp; omega)
  have f0 : ∀ i, w3.frozen? ⟨w.heap.size, i, none⟩ = false := fun i => (k1.frozen (a := ⟨w.heap.size, i, none⟩) (by first | omega | (simp; done) | (simp; omega)) (by simp; omega)).trans (by first | exact f0 i | simp [f0 i] | simp)
  have K3 : Hid (Keeps [n] w w3) := K2.out.trans (Keeps.trans (F := [n]) (by exact Keeps.K) k1 (fun _ _ h => h)) (fun _ _ h => h)
  have S3 : w.heap.size < w3.heap.size := by have := k1.size; first | omega | (simp at this; omega)
  clear h1 k1
  have n3 : n < w3.heap.size := H3.out.lt
  go_wp2_with fail
  refine (wOk_any n a c bs q3 b3 _ (H3.out.k (by exact Keeps.K))).mono ?_
  rintro e w4 ⟨rfl, k1⟩
  have kx : Keeps [] w3 w4 := Keeps.trans (G := []) (by exact Keeps.K) k1 (fun _ _ h => by cases h)
  have r0 : w4.cell? ⟨w.heap.size, 0, none⟩ = some (.int .i64 0) := k1.cellSome (by go_simp) (by simp)
  have r1 : w4.cell? ⟨w.heap.size, 1, none⟩ = some (.int .i64 0) := k1.cellSome (by go_simp) (by simp)
  have r2 : w4.cell? ⟨w.heap.size, 2, none⟩ = some (.string ⟨#[]⟩) := k1.cellSome (by go_simp) (by simp)
  have v0 : w4.cell? ⟨w3.heap.size, 0, none⟩ = some (.int .i64 k) := k1.cellSome (by go_simp) (by simp)
  have v1 : w4.cell? ⟨w3.heap.size, 1, none⟩ = some (.int .i64 m) := k1.cellSome (by go_simp) (by simp)
  have v2 : w4.cell? ⟨w3.heap.size, 2, none⟩ = some (.string (str s)) := k1.cellSome (by go_simp) (by simp)
  have f0 : ∀ i, w4.frozen? ⟨w.heap.size, i, none⟩ = false := fun i => (kx.frozen (a := ⟨w.heap.size, i, none⟩) (by show w.heap.size < _; omega) (by simp)).trans (f0 i)
  have K4 : Hid (Keeps [] w3 w4) := Keeps.trans (by exact Keeps.K) k1 (fun _ _ h => h)
  have S4 : w.heap.size < w4.heap.size := by have := K4.out.size; omega
  have H4 : Hid (RdAt 78 w4 n a c bs q3 b3) := H3.out.k K4.out
  have KK4 : Hid (Keeps [n] w w4) := K3.out.trans K4.out (fun _ _ h => by cases h)
  clear k1 K3 K4 H3
  have nw : n ≠ w.heap.size := by omega
  rcases b3 with _ | _
  · go_wp2_with fail
    refine (vCheck_any ⟨k, m, str s⟩ _ (HT.out _ (KK4.out.trans (G := []) (by exact Keeps.K) (fun _ _ h => by cases h))) (by
      show (str s).size ≤ _
      have e : (str s).size = s.length := rfl
      omega)).mono ?_
    rintro e w5 ⟨rfl, k1⟩
    have kx : Keeps [] w4 w5 := Keeps.trans (G := []) (by exact Keeps.K) k1 (fun _ _ h => by cases h)
    have r0 : w5.cell? ⟨w.heap.size, 0, none⟩ = some (.int .i64 0) := k1.cellSome (by go_simp) (by simp)
    have r1 : w5.cell? ⟨w.heap.size, 1, none⟩ = some (.int .i64 0) := k1.cellSome (by go_simp) (by simp)
    have r2 : w5.cell? ⟨w.heap.size, 2, none⟩ = some (.string ⟨#[]⟩) := k1.cellSome (by go_simp) (by simp)
    have v0 : w5.cell? ⟨w3.heap.size, 0, none⟩ = some (.int .i64 k) := k1.cellSome (by go_simp) (by simp)
    have v1 : w5.cell? ⟨w3.heap.size, 1, none⟩ = some (.int .i64 m) := k1.cellSome (by go_simp) (by simp)
    have v2 : w5.cell? ⟨w3.heap.size, 2, none⟩ = some (.string (str s)) := k1.cellSome (by go_simp) (by simp)
    have f0 : ∀ i, w5.frozen? ⟨w.heap.size, i, none⟩ = false := fun i => (kx.frozen (a := ⟨w.heap.size, i, none⟩) (by show w.heap.size < _; omega) (by simp)).trans (f0 i)
    have K5 := hid kx
    have H5 : Hid (RdAt 78 w5 n a c bs q3 false) := H4.out.k K5.out
    have KK5 : Hid (Keeps [n] w w5) := KK4.out.trans K5.out (fun k hk hm => by simp at hm)
    have S5 : w.heap.size < w5.heap.size := by have := K5.out.size; omega
    have fb : ∀ i, w5.frozen? ⟨n, i, none⟩ = false := fun i => frozen_of_row w5 n i _ _ H5.out.row
    have gb : w5.cell? ⟨n, 2, none⟩ = some (.bool false) := cell_of_block H5.out.row 2
    clear k1 kx K5 H4 KK4
    rcases hc : checkD ⟨k, m, str s⟩ with _ | _
    · go_wp2_with fail
      refine (wFail_any n a c bs q3 false _ (H5.out.k (by exact Keeps.K))).mono ?_
      rintro e w6 ⟨rfl, h1, k1⟩
      have H6 : Hid (RdAt 78 w6 n a c bs q3 true) := h1
      have r0 : w6.cell? ⟨w.heap.size, 0, none⟩ = some (.int .i64 0) := k1.cellSome (by go_simp) (by simp; omega)
      have r1 : w6.cell? ⟨w.heap.size, 1, none⟩ = some (.int .i64 0) := k1.cellSome (by go_simp) (by simp; omega)
      have r2 : w6.cell? ⟨w.heap.size, 2, none⟩ = some (.string ⟨#[]⟩) := k1.cellSome (by go_simp) (by simp; omega)
      have f0 : ∀ i, w6.frozen? ⟨w.heap.size, i, none⟩ = false := fun i => (k1.frozen (a := ⟨w.heap.size, i, none⟩) (by first | omega | (simp; done) | (simp; omega)) (by simp; omega)).trans (by first | exact f0 i | simp [f0 i] | simp)
      have KK6 : Hid (Keeps [n] w w6) := KK5.out.trans (Keeps.trans (F := [n]) (by exact Keeps.K) k1 (fun _ _ h => h)) (fun _ _ h => h)
      clear k1 h1
      go_wp2_with fail
      refine bodyPost_ret (v := (.agg #[.int .i64 0, .int .i64 0, .string ⟨#[]⟩])) (by simp [results, Tryd.results24, go_sem, r0, r1, r2]) rfl ?_
      rw [HR.out, if_pos (.inr hc)]
      exact ⟨rfl, H6.out.off H.out (F := [w.heap.size]) (by exact Keeps.K) (by simp), KK6.out.trans (G := [w.heap.size]) (by exact Keeps.K) (fun k hk hm => by simp at hm; omega)⟩
    · go_wp2_with fail
      refine bodyPost_ret (v := (.agg #[.int .i64 k, .int .i64 m, .string (str s)])) (by simp [results, Tryd.results24, go_sem, r0, r1, r2]) rfl ?_
      rw [HR.out, if_neg (by simp [hc])]
      exact ⟨rfl, H5.out.off H.out (F := [w.heap.size]) (by exact Keeps.K) (by simp), KK5.out.trans (G := [w.heap.size]) (by exact Keeps.K) (fun k hk hm => by simp at hm; omega)⟩
  · have fb : ∀ i, w4.frozen? ⟨n, i, none⟩ = false := fun i => frozen_of_row w4 n i _ _ H4.out.row
    go_wp2_with fail
    refine (wFail_any n a c bs q3 true _ (H4.out.k (by exact Keeps.K))).mono ?_
    rintro e w6 ⟨rfl, h1, k1⟩
    have H6 : Hid (RdAt 78 w6 n a c bs q3 true) := h1
    have r0 : w6.cell? ⟨w.heap.size, 0, none⟩ = some (.int .i64 0) := k1.cellSome (by go_simp) (by simp; omega)
    have r1 : w6.cell? ⟨w.heap.size, 1, none⟩ = some (.int .i64 0) := k1.cellSome (by go_simp) (by simp; omega)
    have r2 : w6.cell? ⟨w.heap.size, 2, none⟩ = some (.string ⟨#[]⟩) := k1.cellSome (by go_simp) (by simp; omega)
    have f0 : ∀ i, w6.frozen? ⟨w.heap.size, i, none⟩ = false := fun i => (k1.frozen (a := ⟨w.heap.size, i, none⟩) (by first | omega | (simp; done) | (simp; omega)) (by simp; omega)).trans (by first | exact f0 i | simp [f0 i] | simp)
    have KK6 : Hid (Keeps [n] w w6) := KK4.out.trans (Keeps.trans (F := [n]) (by exact Keeps.K) k1 (fun _ _ h => h)) (fun _ _ h => h)
    clear k1 h1
    go_wp2_with fail
    refine bodyPost_ret (v := (.agg #[.int .i64 0, .int .i64 0, .string ⟨#[]⟩])) (by simp [results, Tryd.results24, go_sem, r0, r1, r2]) rfl ?_
    rw [HR.out, if_pos (by simp)]
    exact ⟨rfl, H6.out.off H.out (F := [w.heap.size]) (by exact Keeps.K) (by simp), KK6.out.trans (G := [w.heap.size]) (by exact Keeps.K) (fun k hk hm => by simp at hm; omega)⟩

end Go.Proofs.YtbbdmmhpbeleoaaDoor
