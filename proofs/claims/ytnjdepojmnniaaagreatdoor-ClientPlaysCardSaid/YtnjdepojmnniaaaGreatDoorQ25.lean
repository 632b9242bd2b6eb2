/- Joined of RdE, CmG, CmH. -/
import Derived.Test.YtnjdepojmnniaaaGreatDoorRdC
import Derived.Test.YtnjdepojmnniaaaGreatDoorQ18
import Derived.Test.YtnjdepojmnniaaaGreatDoorQ19
import Derived.Test.YtnjdepojmnniaaaGreatDoorQ21

set_option linter.unusedSimpArgs false
set_option linter.unusedVariables false

/- A new reader; a value is read. (Printed by gen_rde.py.) -/
namespace Go.Proofs.YtnjdepojmnniaaaGreatDoor
open Go Go.RowKit

theorem RdAt.kk {t : TypeId} {F : List Nat} {w w' : World} {n : Nat} {a : Option Addr} {c : Nat} {bs : List UInt8} {p : Nat} {bad : Bool} (h : RdAt t w n a c bs p bad) (k : Keeps F w w') (hn : n ∉ F) (hb : ∀ b ∈ ownB (.slice a bs.length c), b ∉ F) : RdAt t w' n a c bs p bad :=
  ⟨(k.block n (Array.getElem?_eq_some_iff.1 h.row).1 hn).trans h.row, h.bytes.keeps k hb, h.apart, h.place, h.short⟩
theorem RdAt.lt {t : TypeId} {w : World} {n : Nat} {a : Option Addr} {c : Nat} {bs : List UInt8} {p : Nat} {bad : Bool} (h : RdAt t w n a c bs p bad) : n < w.heap.size := (Array.getElem?_eq_some_iff.1 h.row).1
theorem RdAt.off {t : TypeId} {F : List Nat} {w0 w w' : World} {n : Nat} {a : Option Addr} {c : Nat} {bs : List UInt8} {p p0 : Nat} {bad bad0 : Bool} (h : RdAt t w n a c bs p bad) (h0 : RdAt t w0 n a c bs p0 bad0) (k : Keeps F w w') (hF : ∀ b ∈ F, w0.heap.size ≤ b) : RdAt t w' n a c bs p bad := by
  have hn := h0.lt
  refine ⟨(k.block n h.lt (fun h => by have := hF n h; omega)).trans h.row, ?_, h.apart, h.place, h.short⟩
  refine h.bytes.keepsL (P := fun b => b < w0.heap.size) (fun hz b hb => h0.bytes.lt hz b hb) k (fun b hb hm => by have := hF b hm; omega)
/-- What is read as a value; the place behind; whether it is wrong. -/
def getD (bs : List UInt8) (p : Nat) (bad : Bool) : ValD × Nat × Bool :=
  match rdD bs p bad with
  | (k, q, b) => match rdD bs q b with
    | (n, q2, b2) => match rtextD bs q2 b2 400 with
      | (s, q3, b3) => if b3 = true ∨ checkD ⟨k, n, str s⟩ = false then (⟨0, 0, ⟨#[]⟩⟩, q3, true) else (⟨k, n, str s⟩, q3, false)
def GetPost (t : TypeId) (n : Nat) (a : Option Addr) (c : Nat) (bs : List UInt8) (r : ValD × Nat × Bool) (w : World) (e : Ending) (w' : World) : Prop :=
  e = .returned (valV r.1) ∧ RdAt t w' n a c bs r.2.1 r.2.2 ∧ Keeps [n] w w'
theorem rtextD_len (bs : List UInt8) (p : Nat) (bad : Bool) {most : Int} (hm : 0 ≤ most) {s : List UInt8} {q : Nat} {b : Bool} (h : rtextD bs p bad most = (s, q, b)) : (s.length : Int) ≤ most := by
  unfold rtextD at h
  split at h
  · simp at h; obtain ⟨rfl, _⟩ := h; simpa using hm
  · rename_i hc
    have hb : (countD bs p bad most).2.2 = false := by simpa using hc
    have hk := @countD_ok bs p bad most (countD bs p bad most).1 (countD bs p bad most).2.1 (by rw [← hb])
    simp at h
    obtain ⟨rfl, _⟩ := h
    rw [List.length_take]
    omega

set_option maxRecDepth 100000 in
theorem wNew_any (v : Value) (bs : List UInt8) (w : World) (hr : Reads w 1 v bs.length (u8s bs)) (hb : bs.length ≤ 140737488355328) : Calls Tryz.prog 42 #[v] w fun e w' =>
    ∃ n a c, e = .returned (.pointer (some ⟨n, 0, none⟩)) ∧ w.heap.size ≤ n ∧ RdAt 98 w' n a c bs 0 false ∧ Keeps [] w w' ∧ ∀ b ∈ ownB (.slice a bs.length c), w.heap.size ≤ b ∧ b < w'.heap.size := by
  obtain ⟨i0, hi, hz0, hz1, hz2⟩ := info_parts Tryz.infoU8
  go_enter Tryz.func42, Tryz.ntmps42
  go_wp2_with (at_builtin; refine wpList_append_copy _ rfl (.tmp 3) 36 rfl 5 i0 (.int .u8 0) 1 1 Tryz.underlying36 hi hz0 hz1 hz2 rfl (by decide) v bs.length (u8s bs) rfl hr (u8s_one bs) (by omega) (le_maxLen (by omega)) ?_)
  intro v' w' h1 h2
  obtain ⟨a, c, rfl⟩ := len_form h1
  have H1 := hid h1
  have K2 : Hid (Keeps [] w w') := Keeps.ofGrown h2 (fun _ h => by cases h)
  clear h1 h2
  go_wp2_with fail
  go_ret
  have G := ownB_ge H1.out
  have S := K2.out.size
  refine ⟨_, a, c, rfl, S, ⟨heap_alloc_new _ _, (Reads.ofOwn H1.out).keeps ((Keeps.refl [] w').alloc _) (fun _ _ h => by cases h), fun _ b h e => by have := (G _ h).2; omega, by omega, hb⟩, K2.out.alloc _, fun b h => ⟨(G b h).1, by have := (G b h).2; simp; omega⟩⟩

set_option maxRecDepth 100000 in
set_option maxHeartbeats 1600000 in
theorem vGet_any (n : Nat) (a : Option Addr) (c : Nat) (bs : List UInt8) (p : Nat) (bad : Bool) (w : World) (h : RdAt 98 w n a c bs p bad) (hT : ∀ w', Keeps [n] w w' → Tabs w') :
    Calls Tryz.prog 44 #[.pointer (some ⟨n, 0, none⟩)] w (GetPost 98 n a c bs (getD bs p bad) w) := by
  have HT := hid hT
  have H := hid h
  have hn := h.lt
  have f0 : True := trivial
  have fv : True := trivial
  have HG : Hid (∀ k q b m q2 b2 s q3 b3, rdD bs p bad = (k, q, b) → rdD bs q b = (m, q2, b2) → rtextD bs q2 b2 400 = (s, q3, b3) → getD bs p bad = if b3 = true ∨ checkD ⟨k, m, str s⟩ = false then (⟨0, 0, ⟨#[]⟩⟩, q3, true) else (⟨k, m, str s⟩, q3, false)) := by
    intro k q b m q2 b2 s q3 b3 e1 e2 e3
    unfold getD
    rw [e1]; dsimp only; rw [e2]; dsimp only; rw [e3]
  obtain ⟨res, hres⟩ : ∃ res, getD bs p bad = res := ⟨_, rfl⟩
  rw [hres] at HG ⊢
  clear hT h hres
  go_enter Tryz.func44, Tryz.ntmps44
  go_wp2_with fail
  refine (rdInt_any n a c bs p bad _ (H.out.k (by exact Keeps.K))).mono ?_
  obtain ⟨⟨k, q, b⟩, hr⟩ : ∃ r, rdD bs p bad = r := ⟨_, rfl⟩
  rw [hr]
  have E1 := hid hr
  clear hr
  rintro e w1 ⟨rfl, h1, k1⟩
  have H1 : Hid (RdAt 98 w1 n a c bs q b) := h1
  have r0 : w1.cell? ⟨w.heap.size, 0, none⟩ = some (.int .i64 0) := k1.cellSome (by go_simp) (by simp; omega)
  have r1 : w1.cell? ⟨w.heap.size, 1, none⟩ = some (.int .i64 0) := k1.cellSome (by go_simp) (by simp; omega)
  have r2 : w1.cell? ⟨w.heap.size, 2, none⟩ = some (.string ⟨#[]⟩) := k1.cellSome (by go_simp) (by simp; omega)
  have f0 : ∀ i, w1.frozen? ⟨w.heap.size, i, none⟩ = false := fun i => (k1.frozen (a := ⟨w.heap.size, i, none⟩) (by first | omega | (simp; done) | (simp; omega)) (by simp; omega)).trans (by first | exact f0 i | simp [f0 i] | simp)
  have K1 : Hid (Keeps [n] w w1) := Keeps.trans (F := [n]) (by exact Keeps.K) k1 (fun _ _ h => h)
  have S1 : w.heap.size < w1.heap.size := by have := k1.size; first | omega | (simp at this; omega)
  clear h1 k1
  go_wp2_with fail
  refine (rdInt_any n a c bs q b _ (H1.out.k (by exact Keeps.K))).mono ?_
  obtain ⟨⟨m, q2, b2⟩, hr⟩ : ∃ r, rdD bs q b = r := ⟨_, rfl⟩
  rw [hr]
  have E2 := hid hr
  clear hr
  rintro e w2 ⟨rfl, h1, k1⟩
  have H2 : Hid (RdAt 98 w2 n a c bs q2 b2) := h1
  have r0 : w2.cell? ⟨w.heap.size, 0, none⟩ = some (.int .i64 0) := k1.cellSome (by go_simp) (by simp; omega)
  have r1 : w2.cell? ⟨w.heap.size, 1, none⟩ = some (.int .i64 0) := k1.cellSome (by go_simp) (by simp; omega)
  have r2 : w2.cell? ⟨w.heap.size, 2, none⟩ = some (.string ⟨#[]⟩) := k1.cellSome (by go_simp) (by simp; omega)
  have f0 : ∀ i, w2.frozen? ⟨w.heap.size, i, none⟩ = false := fun i => (k1.frozen (a := ⟨w.heap.size, i, none⟩) (by first | omega | (simp; done) | (simp; omega)) (by simp; omega)).trans (by first | exact f0 i | simp [f0 i] | simp)
  have K2 : Hid (Keeps [n] w w2) := K1.out.trans (Keeps.trans (F := [n]) (by exact Keeps.K) k1 (fun _ _ h => h)) (fun _ _ h => h)
  have S2 : w.heap.size < w2.heap.size := by have := k1.size; first | omega | (simp at this; omega)
  clear h1 k1
  go_wp2_with fail
  refine (wText_any n a c bs q2 b2 400 _ (H2.out.k (by exact Keeps.K)) (by omega)).mono ?_
  obtain ⟨⟨s, q3, b3⟩, hr⟩ : ∃ r, rtextD bs q2 b2 400 = r := ⟨_, rfl⟩
  rw [hr]
  have HS := rtextD_len bs q2 b2 (by omega) hr
  have HR := hid (HG.out k q b m q2 b2 s q3 b3 E1.out E2.out hr)
  clear hr HG E1 E2
  rintro e w3 ⟨rfl, h1, k1⟩
  have H3 : Hid (RdAt 98 w3 n a c bs q3 b3) := h1
  have r0 : w3.cell? ⟨w.heap.size, 0, none⟩ = some (.int .i64 0) := k1.cellSome (by go_simp) (by simp; omega)
  have r1 : w3.cell? ⟨w.heap.size, 1, none⟩ = some (.int .i64 0) := k1.cellSome (by go_simp) (by simp; omega)
  have r2 : w3.cell? ⟨w.heap.size, 2, none⟩ = some (.string ⟨#[]⟩) := k1.cellSome (by go_simp) (by simp; omega)
  have f0 : ∀ i, w3.frozen? ⟨w.heap.size, i, none⟩ = false := fun i => (k1.frozen (a := ⟨w.heap.size, i, none⟩) (by first | omega | (simp; done) | (simp; omega)) (by simp; omega)).trans (by first | exact f0 i | simp [f0 i] | simp)
  have K3 : Hid (Keeps [n] w w3) := K2.out.trans (Keeps.trans (F := [n]) (by exact Keeps.K) k1 (fun _ _ h => h)) (fun _ _ h => h)
  have S3 : w.heap.size < w3.heap.size := by have := k1.size; first | omega | (simp at this; omega)
  clear h1 k1
  have n3 : n < w3.heap.size := H3.out.lt
  go_wp2_with fail
  refine (wOk_any n a c bs q3 b3 _ (H3.out.k (by exact Keeps.K))).mono ?_
  rintro e w4 ⟨rfl, k1⟩
  have kx : Keeps [] w3 w4 := Keeps.trans (G := []) (by exact Keeps.K) k1 (fun _ _ h => by cases h)
  have r0 : w4.cell? ⟨w.heap.size, 0, none⟩ = some (.int .i64 0) := k1.cellSome (by go_simp) (by simp)
  have r1 : w4.cell? ⟨w.heap.size, 1, none⟩ = some (.int .i64 0) := k1.cellSome (by go_simp) (by simp)
  have r2 : w4.cell? ⟨w.heap.size, 2, none⟩ = some (.string ⟨#[]⟩) := k1.cellSome (by go_simp) (by simp)
  have v0 : w4.cell? ⟨w3.heap.size, 0, none⟩ = some (.int .i64 k) := k1.cellSome (by go_simp) (by simp)
  have v1 : w4.cell? ⟨w3.heap.size, 1, none⟩ = some (.int .i64 m) := k1.cellSome (by go_simp) (by simp)
  have v2 : w4.cell? ⟨w3.heap.size, 2, none⟩ = some (.string (str s)) := k1.cellSome (by go_simp) (by simp)
  have f0 : ∀ i, w4.frozen? ⟨w.heap.size, i, none⟩ = false := fun i => (kx.frozen (a := ⟨w.heap.size, i, none⟩) (by show w.heap.size < _; omega) (by simp)).trans (f0 i)
  have K4 : Hid (Keeps [] w3 w4) := Keeps.trans (by exact Keeps.K) k1 (fun _ _ h => h)
  have S4 : w.heap.size < w4.heap.size := by have := K4.out.size; omega
  have H4 : Hid (RdAt 98 w4 n a c bs q3 b3) := H3.out.k K4.out
  have KK4 : Hid (Keeps [n] w w4) := K3.out.trans K4.out (fun _ _ h => by cases h)
  clear k1 K3 K4 H3
  have nw : n ≠ w.heap.size := by omega
  rcases b3 with _ | _
  · go_wp2_with fail
    refine (vCheck_any ⟨k, m, str s⟩ _ (HT.out _ (KK4.out.trans (G := []) (by exact Keeps.K) (fun _ _ h => by cases h))) (by
      show (str s).size ≤ _
      have e : (str s).size = s.length := rfl
      omega)).mono ?_
    rintro e w5 ⟨rfl, k1⟩
    have kx : Keeps [] w4 w5 := Keeps.trans (G := []) (by exact Keeps.K) k1 (fun _ _ h => by cases h)
    have r0 : w5.cell? ⟨w.heap.size, 0, none⟩ = some (.int .i64 0) := k1.cellSome (by go_simp) (by simp)
    have r1 : w5.cell? ⟨w.heap.size, 1, none⟩ = some (.int .i64 0) := k1.cellSome (by go_simp) (by simp)
    have r2 : w5.cell? ⟨w.heap.size, 2, none⟩ = some (.string ⟨#[]⟩) := k1.cellSome (by go_simp) (by simp)
    have v0 : w5.cell? ⟨w3.heap.size, 0, none⟩ = some (.int .i64 k) := k1.cellSome (by go_simp) (by simp)
    have v1 : w5.cell? ⟨w3.heap.size, 1, none⟩ = some (.int .i64 m) := k1.cellSome (by go_simp) (by simp)
    have v2 : w5.cell? ⟨w3.heap.size, 2, none⟩ = some (.string (str s)) := k1.cellSome (by go_simp) (by simp)
    have f0 : ∀ i, w5.frozen? ⟨w.heap.size, i, none⟩ = false := fun i => (kx.frozen (a := ⟨w.heap.size, i, none⟩) (by show w.heap.size < _; omega) (by simp)).trans (f0 i)
    have K5 := hid kx
    have H5 : Hid (RdAt 98 w5 n a c bs q3 false) := H4.out.k K5.out
    have KK5 : Hid (Keeps [n] w w5) := KK4.out.trans K5.out (fun k hk hm => by simp at hm)
    have S5 : w.heap.size < w5.heap.size := by have := K5.out.size; omega
    have fb : ∀ i, w5.frozen? ⟨n, i, none⟩ = false := fun i => frozen_of_row w5 n i _ _ H5.out.row
    have gb : w5.cell? ⟨n, 2, none⟩ = some (.bool false) := cell_of_block H5.out.row 2
    clear k1 kx K5 H4 KK4
    rcases hc : checkD ⟨k, m, str s⟩ with _ | _
    · go_wp2_with fail
      refine (wFail_any n a c bs q3 false _ (H5.out.k (by exact Keeps.K))).mono ?_
      rintro e w6 ⟨rfl, h1, k1⟩
      have H6 : Hid (RdAt 98 w6 n a c bs q3 true) := h1
      have r0 : w6.cell? ⟨w.heap.size, 0, none⟩ = some (.int .i64 0) := k1.cellSome (by go_simp) (by simp; omega)
      have r1 : w6.cell? ⟨w.heap.size, 1, none⟩ = some (.int .i64 0) := k1.cellSome (by go_simp) (by simp; omega)
      have r2 : w6.cell? ⟨w.heap.size, 2, none⟩ = some (.string ⟨#[]⟩) := k1.cellSome (by go_simp) (by simp; omega)
      have f0 : ∀ i, w6.frozen? ⟨w.heap.size, i, none⟩ = false := fun i => (k1.frozen (a := ⟨w.heap.size, i, none⟩) (by first | omega | (simp; done) | (simp; omega)) (by simp; omega)).trans (by first | exact f0 i | simp [f0 i] | simp)
      have KK6 : Hid (Keeps [n] w w6) := KK5.out.trans (Keeps.trans (F := [n]) (by exact Keeps.K) k1 (fun _ _ h => h)) (fun _ _ h => h)
      clear k1 h1
      go_wp2_with fail
      refine bodyPost_ret (v := (.agg #[.int .i64 0, .int .i64 0, .string ⟨#[]⟩])) (by simp [results, Tryz.results44, go_sem, r0, r1, r2]) rfl ?_
      rw [HR.out, if_pos (.inr hc)]
      exact ⟨rfl, H6.out.off H.out (F := [w.heap.size]) (by exact Keeps.K) (by simp), KK6.out.trans (G := [w.heap.size]) (by exact Keeps.K) (fun k hk hm => by simp at hm; omega)⟩
    · go_wp2_with fail
      refine bodyPost_ret (v := (.agg #[.int .i64 k, .int .i64 m, .string (str s)])) (by simp [results, Tryz.results44, go_sem, r0, r1, r2]) rfl ?_
      rw [HR.out, if_neg (by simp [hc])]
      exact ⟨rfl, H5.out.off H.out (F := [w.heap.size]) (by exact Keeps.K) (by simp), KK5.out.trans (G := [w.heap.size]) (by exact Keeps.K) (fun k hk hm => by simp at hm; omega)⟩
  · have fb : ∀ i, w4.frozen? ⟨n, i, none⟩ = false := fun i => frozen_of_row w4 n i _ _ H4.out.row
    go_wp2_with fail
    refine (wFail_any n a c bs q3 true _ (H4.out.k (by exact Keeps.K))).mono ?_
    rintro e w6 ⟨rfl, h1, k1⟩
    have H6 : Hid (RdAt 98 w6 n a c bs q3 true) := h1
    have r0 : w6.cell? ⟨w.heap.size, 0, none⟩ = some (.int .i64 0) := k1.cellSome (by go_simp) (by simp; omega)
    have r1 : w6.cell? ⟨w.heap.size, 1, none⟩ = some (.int .i64 0) := k1.cellSome (by go_simp) (by simp; omega)
    have r2 : w6.cell? ⟨w.heap.size, 2, none⟩ = some (.string ⟨#[]⟩) := k1.cellSome (by go_simp) (by simp; omega)
    have f0 : ∀ i, w6.frozen? ⟨w.heap.size, i, none⟩ = false := fun i => (k1.frozen (a := ⟨w.heap.size, i, none⟩) (by first | omega | (simp; done) | (simp; omega)) (by simp; omega)).trans (by first | exact f0 i | simp [f0 i] | simp)
    have KK6 : Hid (Keeps [n] w w6) := KK4.out.trans (Keeps.trans (F := [n]) (by exact Keeps.K) k1 (fun _ _ h => h)) (fun _ _ h => h)
    clear k1 h1
    go_wp2_with fail
    refine bodyPost_ret (v := (.agg #[.int .i64 0, .int .i64 0, .string ⟨#[]⟩])) (by simp [results, Tryz.results44, go_sem, r0, r1, r2]) rfl ?_
    rw [HR.out, if_pos (by simp)]
    exact ⟨rfl, H6.out.off H.out (F := [w.heap.size]) (by exact Keeps.K) (by simp), KK6.out.trans (G := [w.heap.size]) (by exact Keeps.K) (fun k hk hm => by simp at hm; omega)⟩

set_option maxRecDepth 100000 in
set_option maxHeartbeats 1600000 in
theorem r5Get_any (n : Nat) (a : Option Addr) (c : Nat) (bs : List UInt8) (p : Nat) (bad : Bool) (w : World) (h : RdAt 112 w n a c bs p bad) (hT : ∀ w', Keeps [n] w w' → Tabs w') :
    Calls Tryz.prog 73 #[.pointer (some ⟨n, 0, none⟩)] w (GetPost 112 n a c bs (getD bs p bad) w) := by
  have HT := hid hT
  have H := hid h
  have hn := h.lt
  have f0 : True := trivial
  have fv : True := trivial
  have HG : Hid (∀ k q b m q2 b2 s q3 b3, rdD bs p bad = (k, q, b) → rdD bs q b = (m, q2, b2) → rtextD bs q2 b2 400 = (s, q3, b3) → getD bs p bad = if b3 = true ∨ checkD ⟨k, m, str s⟩ = false then (⟨0, 0, ⟨#[]⟩⟩, q3, true) else (⟨k, m, str s⟩, q3, false)) := by
    intro k q b m q2 b2 s q3 b3 e1 e2 e3
    unfold getD
    rw [e1]; dsimp only; rw [e2]; dsimp only; rw [e3]
  obtain ⟨res, hres⟩ : ∃ res, getD bs p bad = res := ⟨_, rfl⟩
  rw [hres] at HG ⊢
  clear hT h hres
  go_enter Tryz.func73, Tryz.ntmps73
  go_wp2_with fail
  refine (r3RInt_any n a c bs p bad _ (H.out.k (by exact Keeps.K))).mono ?_
  obtain ⟨⟨k, q, b⟩, hr⟩ : ∃ r, rdD bs p bad = r := ⟨_, rfl⟩
  rw [hr]
  have E1 := hid hr
  clear hr
  rintro e w1 ⟨rfl, h1, k1⟩
  have H1 : Hid (RdAt 112 w1 n a c bs q b) := h1
  have r0 : w1.cell? ⟨w.heap.size, 0, none⟩ = some (.int .i64 0) := k1.cellSome (by go_simp) (by simp; omega)
  have r1 : w1.cell? ⟨w.heap.size, 1, none⟩ = some (.int .i64 0) := k1.cellSome (by go_simp) (by simp; omega)
  have r2 : w1.cell? ⟨w.heap.size, 2, none⟩ = some (.string ⟨#[]⟩) := k1.cellSome (by go_simp) (by simp; omega)
  have v0 : w1.cell? ⟨w.heap.size + 1, 0, none⟩ = some (.int .i64 0) := k1.cellSome (by go_simp) (by simp; omega)
  have v1 : w1.cell? ⟨w.heap.size + 1, 1, none⟩ = some (.int .i64 0) := k1.cellSome (by go_simp) (by simp; omega)
  have v2 : w1.cell? ⟨w.heap.size + 1, 2, none⟩ = some (.string ⟨#[]⟩) := k1.cellSome (by go_simp) (by simp; omega)
  have f0 : ∀ i, w1.frozen? ⟨w.heap.size, i, none⟩ = false := fun i => (k1.frozen (a := ⟨w.heap.size, i, none⟩) (by first | omega | (simp; done) | (simp; omega)) (by simp; omega)).trans (by first | exact f0 i | simp [f0 i] | simp)
  have fv : ∀ i, w1.frozen? ⟨w.heap.size + 1, i, none⟩ = false := fun i => (k1.frozen (a := ⟨w.heap.size + 1, i, none⟩) (by first | omega | (simp; done) | (simp; omega)) (by simp; omega)).trans (by first | exact fv i | simp [fv i] | simp)
  have K1 : Hid (Keeps [n] w w1) := Keeps.trans (F := [n]) (by exact Keeps.K) k1 (fun _ _ h => h)
  have S1 : w.heap.size + 1 < w1.heap.size := by have := k1.size; first | omega | (simp at this; omega)
  clear h1 k1
  go_wp2_with fail
  refine (r3RInt_any n a c bs q b _ (H1.out.off H.out (F := [w.heap.size + 1]) (by exact Keeps.K) (by simp))).mono ?_
  obtain ⟨⟨m, q2, b2⟩, hr⟩ : ∃ r, rdD bs q b = r := ⟨_, rfl⟩
  rw [hr]
  have E2 := hid hr
  clear hr
  rintro e w2 ⟨rfl, h1, k1⟩
  have H2 : Hid (RdAt 112 w2 n a c bs q2 b2) := h1
  have r0 : w2.cell? ⟨w.heap.size, 0, none⟩ = some (.int .i64 0) := k1.cellSome (by go_simp) (by simp; omega)
  have r1 : w2.cell? ⟨w.heap.size, 1, none⟩ = some (.int .i64 0) := k1.cellSome (by go_simp) (by simp; omega)
  have r2 : w2.cell? ⟨w.heap.size, 2, none⟩ = some (.string ⟨#[]⟩) := k1.cellSome (by go_simp) (by simp; omega)
  have v0 : w2.cell? ⟨w.heap.size + 1, 0, none⟩ = some (.int .i64 k) := k1.cellSome (by go_simp) (by simp; omega)
  have v1 : w2.cell? ⟨w.heap.size + 1, 1, none⟩ = some (.int .i64 0) := k1.cellSome (by go_simp) (by simp; omega)
  have v2 : w2.cell? ⟨w.heap.size + 1, 2, none⟩ = some (.string ⟨#[]⟩) := k1.cellSome (by go_simp) (by simp; omega)
  have f0 : ∀ i, w2.frozen? ⟨w.heap.size, i, none⟩ = false := fun i => (k1.frozen (a := ⟨w.heap.size, i, none⟩) (by first | omega | (simp; done) | (simp; omega)) (by simp; omega)).trans (by first | exact f0 i | simp [f0 i] | simp)
  have fv : ∀ i, w2.frozen? ⟨w.heap.size + 1, i, none⟩ = false := fun i => (k1.frozen (a := ⟨w.heap.size + 1, i, none⟩) (by first | omega | (simp; done) | (simp; omega)) (by simp; omega)).trans (by first | exact fv i | simp [fv i] | simp)
  have K2 : Hid (Keeps [n] w w2) := (K1.out.trans (G := [w.heap.size + 1]) (by exact Keeps.K) (fun k hk hm => by simp at hm; omega)).trans k1 (fun _ _ h => h)
  have S2 : w.heap.size + 1 < w2.heap.size := by have := k1.size; first | omega | (simp at this; omega)
  clear h1 k1
  go_wp2_with fail
  refine (r3RText_any n a c bs q2 b2 400 _ (H2.out.off H.out (F := [w.heap.size + 1]) (by exact Keeps.K) (by simp)) (by omega)).mono ?_
  obtain ⟨⟨s, q3, b3⟩, hr⟩ : ∃ r, rtextD bs q2 b2 400 = r := ⟨_, rfl⟩
  rw [hr]
  have HS := rtextD_len bs q2 b2 (by omega) hr
  have HR := hid (HG.out k q b m q2 b2 s q3 b3 E1.out E2.out hr)
  clear hr HG E1 E2
  rintro e w3 ⟨rfl, h1, k1⟩
  have H3 : Hid (RdAt 112 w3 n a c bs q3 b3) := h1
  have r0 : w3.cell? ⟨w.heap.size, 0, none⟩ = some (.int .i64 0) := k1.cellSome (by go_simp) (by simp; omega)
  have r1 : w3.cell? ⟨w.heap.size, 1, none⟩ = some (.int .i64 0) := k1.cellSome (by go_simp) (by simp; omega)
  have r2 : w3.cell? ⟨w.heap.size, 2, none⟩ = some (.string ⟨#[]⟩) := k1.cellSome (by go_simp) (by simp; omega)
  have v0 : w3.cell? ⟨w.heap.size + 1, 0, none⟩ = some (.int .i64 k) := k1.cellSome (by go_simp) (by simp; omega)
  have v1 : w3.cell? ⟨w.heap.size + 1, 1, none⟩ = some (.int .i64 m) := k1.cellSome (by go_simp) (by simp; omega)
  have v2 : w3.cell? ⟨w.heap.size + 1, 2, none⟩ = some (.string ⟨#[]⟩) := k1.cellSome (by go_simp) (by simp; omega)
  have f0 : ∀ i, w3.frozen? ⟨w.heap.size, i, none⟩ = false := fun i => (k1.frozen (a := ⟨w.heap.size, i, none⟩) (by first | omega | (simp; done) | (simp; omega)) (by simp; omega)).trans (by first | exact f0 i | simp [f0 i] | simp)
  have fv : ∀ i, w3.frozen? ⟨w.heap.size + 1, i, none⟩ = false := fun i => (k1.frozen (a := ⟨w.heap.size + 1, i, none⟩) (by first | omega | (simp; done) | (simp; omega)) (by simp; omega)).trans (by first | exact fv i | simp [fv i] | simp)
  have K3 : Hid (Keeps [n] w w3) := (K2.out.trans (G := [w.heap.size + 1]) (by exact Keeps.K) (fun k hk hm => by simp at hm; omega)).trans k1 (fun _ _ h => h)
  have S3 : w.heap.size + 1 < w3.heap.size := by have := k1.size; first | omega | (simp at this; omega)
  clear h1 k1
  have H4 := H3
  have KK4 := K3
  have S4 := S3
  clear H3 K3
  have nw : n ≠ w.heap.size := by omega
  have g2 : w3.cell? ⟨n, 2, none⟩ = some (.bool b3) := cell_of_block H4.out.row 2
  have nv : n ≠ w.heap.size + 1 := by omega
  rcases b3 with _ | _
  · go_wp2_with fail
    refine (r5Check_all ⟨k, m, str s⟩ _ (HT.out _ (KK4.out.trans (G := [w.heap.size + 1]) (by exact Keeps.K) (fun k hk hm => by simp at hm; omega)))).mono ?_
    rintro e w5 ⟨rfl, k1⟩
    have kx : Keeps [w.heap.size + 1] w3 w5 := Keeps.trans (G := []) (by exact Keeps.K) k1 (fun _ _ h => by cases h)
    have r0 : w5.cell? ⟨w.heap.size, 0, none⟩ = some (.int .i64 0) := k1.cellSome (by go_simp) (by simp)
    have r1 : w5.cell? ⟨w.heap.size, 1, none⟩ = some (.int .i64 0) := k1.cellSome (by go_simp) (by simp)
    have r2 : w5.cell? ⟨w.heap.size, 2, none⟩ = some (.string ⟨#[]⟩) := k1.cellSome (by go_simp) (by simp)
    have v0 : w5.cell? ⟨w.heap.size + 1, 0, none⟩ = some (.int .i64 k) := k1.cellSome (by go_simp) (by simp)
    have v1 : w5.cell? ⟨w.heap.size + 1, 1, none⟩ = some (.int .i64 m) := k1.cellSome (by go_simp) (by simp)
    have v2 : w5.cell? ⟨w.heap.size + 1, 2, none⟩ = some (.string (str s)) := k1.cellSome (by go_simp) (by simp)
    have f0 : ∀ i, w5.frozen? ⟨w.heap.size, i, none⟩ = false := fun i => (kx.frozen (a := ⟨w.heap.size, i, none⟩) (by show w.heap.size < _; omega) (by simp)).trans (f0 i)
    have K5 := hid kx
    have H5 : Hid (RdAt 112 w5 n a c bs q3 false) := H4.out.off H.out K5.out (by simp)
    have KK5 : Hid (Keeps [n] w w5) := KK4.out.trans K5.out (fun k hk hm => by simp at hm; omega)
    have S5 : w.heap.size < w5.heap.size := by have := K5.out.size; omega
    have fb : ∀ i, w5.frozen? ⟨n, i, none⟩ = false := fun i => frozen_of_row w5 n i _ _ H5.out.row
    have gb : w5.cell? ⟨n, 2, none⟩ = some (.bool false) := cell_of_block H5.out.row 2
    clear k1 kx K5 H4 KK4
    rcases hc : checkD ⟨k, m, str s⟩ with _ | _
    · go_wp2_with fail
      refine bodyPost_ret (v := (.agg #[.int .i64 0, .int .i64 0, .string ⟨#[]⟩])) (by simp [results, Tryz.results73, go_sem, r0, r1, r2]) rfl ?_
      rw [HR.out, if_pos (.inr hc)]
      refine ⟨rfl, ?_, ?_⟩
      · exact (H5.out.wrong).off H.out (F := [w.heap.size, w.heap.size + 1]) (by exact Keeps.K) (by simp)
      · exact KK5.out.trans (G := n :: [w.heap.size, w.heap.size + 1]) (by exact Keeps.K) (fun k hk hm => by simp at hm; simp; omega)
    · go_wp2_with fail
      refine bodyPost_ret (v := (.agg #[.int .i64 k, .int .i64 m, .string (str s)])) (by simp [results, Tryz.results73, go_sem, r0, r1, r2]) rfl ?_
      rw [HR.out, if_neg (by simp [hc])]
      exact ⟨rfl, H5.out.off H.out (F := [w.heap.size, w.heap.size + 1]) (by exact Keeps.K) (by simp), KK5.out.trans (G := [w.heap.size, w.heap.size + 1]) (by exact Keeps.K) (fun k hk hm => by simp at hm; omega)⟩
  · have fb : ∀ i, w3.frozen? ⟨n, i, none⟩ = false := fun i => frozen_of_row w3 n i _ _ H4.out.row
    go_wp2_with fail
    refine bodyPost_ret (v := (.agg #[.int .i64 0, .int .i64 0, .string ⟨#[]⟩])) (by simp [results, Tryz.results73, go_sem, r0, r1, r2]) rfl ?_
    rw [HR.out, if_pos (by simp)]
    refine ⟨rfl, ?_, ?_⟩
    · exact ((H4.out.off H.out (w' := w3.setCell ⟨w.heap.size + 1, 2, none⟩ (.string (str s))) (F := [w.heap.size, w.heap.size + 1]) (by exact Keeps.K) (by simp)).wrong).off H.out (F := [w.heap.size, w.heap.size + 1]) (by exact Keeps.K) (by simp)
    · exact KK4.out.trans (G := n :: [w.heap.size, w.heap.size + 1]) (by exact Keeps.K) (fun k hk hm => by simp at hm; simp; omega)

end Go.Proofs.YtnjdepojmnniaaaGreatDoor

/- A command that is read: plain; as the program reads it. -/
namespace Go.Proofs.YtnjdepojmnniaaaGreatDoor
open Go Go.RowKit

def zeroC : CmdD := ⟨0, 0, 0, ⟨#[]⟩, 0, ⟨0, 0, ⟨#[]⟩⟩⟩
/-- What stands behind the kind: session, number. -/
def raw1 (bs : List UInt8) (k : Int) (p : Nat) (b : Bool) : Int × Int × Nat × Bool :=
  if k = 1 then (0, 0, p, b) else
    match rdD bs p b with
    | (se, p1, b1) => match rdD bs p1 b1 with
      | (sq, p2, b2) => (se, sq, p2, b2)
/-- The field's name. -/
def raw2 (bs : List UInt8) (k : Int) (p : Nat) (b : Bool) : List UInt8 × Nat × Bool :=
  if k = 2 ∨ k = 4 then rtextD bs p b 24 else ([], p, b)
/-- The version, the value. -/
def raw3 (bs : List UInt8) (k : Int) (p : Nat) (b : Bool) : Int × ValD × Nat × Bool :=
  if k = 2 then
    match rdD bs p b with
    | (vr, p1, b1) => match getD bs p1 b1 with
      | (v, p2, b2) => (vr, v, p2, b2)
  else (0, ⟨0, 0, ⟨#[]⟩⟩, p, b)
def rawC (bs : List UInt8) : CmdD × Nat × Bool :=
  match rdD bs 0 false with
  | (k, p, b) => match raw1 bs k p b with
    | (se, sq, p1, b1) => match raw2 bs k p1 b1 with
      | (fd, p2, b2) => match raw3 bs k p2 b2 with
        | (vr, v, p3, b3) => (⟨k, se, sq, str fd, vr, v⟩, p3, b3)
/-- The command that bytes are, and whether they are one. -/
def getC (bs : List UInt8) : CmdD × Bool := if (rawC bs).2.2 = false ∧ (rawC bs).2.1 = bs.length ∧ checkC (rawC bs).1 = true then ((rawC bs).1, true) else (zeroC, false)
/-- The command under way at block m, the reader at block n. -/
structure GetSt (m n : Nat) (a : Option Addr) (q : Nat) (bs : List UInt8) (w wr : World) (c : CmdD) (p : Nat) (b : Bool) : Prop where
  row : wr.heap[m]? = some (.cells #[.int .i64 c.kind, .int .i64 c.session, .int .i64 c.seq, .string c.field, .int .i64 c.version, .int .i64 c.value.kind, .int .i64 c.value.n, .string c.value.s] 34 (0, 0))
  res : wr.heap[w.heap.size]? = some (.cells #[.int .i64 0, .int .i64 0, .int .i64 0, .string ⟨#[]⟩, .int .i64 0, .int .i64 0, .int .i64 0, .string ⟨#[]⟩] 34 (0, 0))
  rd : RdAt 98 wr n a q bs p b
  keeps : Keeps [] w wr
  apart : w.heap.size < n ∧ n < m ∧ ∀ x ∈ ownB (.slice a bs.length q), w.heap.size < x ∧ x < m

theorem getD_short (bs : List UInt8) (p : Nat) (b : Bool) : (getD bs p b).1.s.size ≤ 400 := by
  unfold getD
  obtain ⟨⟨k, q, b1⟩, h1⟩ : ∃ r, rdD bs p b = r := ⟨_, rfl⟩
  rw [h1]
  dsimp only
  obtain ⟨⟨n, q2, b2⟩, h2⟩ : ∃ r, rdD bs q b1 = r := ⟨_, rfl⟩
  rw [h2]
  dsimp only
  obtain ⟨⟨s, q3, b3⟩, h3⟩ : ∃ r, rtextD bs q2 b2 400 = r := ⟨_, rfl⟩
  rw [h3]
  dsimp only
  split
  · show (⟨#[]⟩ : ByteArray).size ≤ 400
    decide
  · have := rtextD_len bs q2 b2 (by decide) h3
    show s.length ≤ 400
    omega
theorem GetSt.step {m n : Nat} {a : Option Addr} {q : Nat} {bs : List UInt8} {w wr w' : World} {c : CmdD} {p p' : Nat} {b b' : Bool} (H : GetSt m n a q bs w wr c p b) (k : Keeps [n] wr w') (h : RdAt 98 w' n a q bs p' b') : GetSt m n a q bs w w' c p' b' :=
  ⟨(k.block _ (Array.getElem?_eq_some_iff.1 H.row).1 (by have := H.apart; simp; omega)).trans H.row, (k.block _ (Array.getElem?_eq_some_iff.1 H.res).1 (by have := H.apart; simp; omega)).trans H.res, h, H.keeps.trans k (fun x hx hx' => by have := H.apart; simp at hx'; omega), H.apart⟩
theorem GetSt.k {m n : Nat} {a : Option Addr} {q : Nat} {bs : List UInt8} {w wr w' : World} {c : CmdD} {p : Nat} {b : Bool} (H : GetSt m n a q bs w wr c p b) (k : Keeps [] wr w') : GetSt m n a q bs w w' c p b :=
  ⟨(k.block _ (Array.getElem?_eq_some_iff.1 H.row).1 (by simp)).trans H.row, (k.block _ (Array.getElem?_eq_some_iff.1 H.res).1 (by simp)).trans H.res, H.rd.k k, H.keeps.trans k (fun _ _ h => h), H.apart⟩
theorem GetSt.set {m n : Nat} {a : Option Addr} {q : Nat} {bs : List UInt8} {w wr w' : World} {c c' : CmdD} {p : Nat} {b : Bool} (H : GetSt m n a q bs w wr c p b) (k : Keeps [m] wr w') (h : w'.heap[m]? = some (.cells #[.int .i64 c'.kind, .int .i64 c'.session, .int .i64 c'.seq, .string c'.field, .int .i64 c'.version, .int .i64 c'.value.kind, .int .i64 c'.value.n, .string c'.value.s] 34 (0, 0))) : GetSt m n a q bs w w' c' p b :=
  ⟨h, (k.block _ (Array.getElem?_eq_some_iff.1 H.res).1 (by have := H.apart; simp; omega)).trans H.res, H.rd.kk k (by have := H.apart; simp; omega) (fun x hx => by have := H.apart.2.2 x hx; simp; omega), H.keeps.trans k (fun x hx hx' => by have := H.apart; simp at hx'; omega), H.apart⟩

end Go.Proofs.YtnjdepojmnniaaaGreatDoor

/- A command that is read, as the document reads it. (Printed by gen_cmh.py.) -/
namespace Go.Proofs.YtnjdepojmnniaaaGreatDoor
open Go Go.RowKit

set_option maxRecDepth 100000 in
theorem r3REnd_any (n : Nat) (a : Option Addr) (c : Nat) (bs : List UInt8) (p : Nat) (bad : Bool) (w : World) (h : RdAt 112 w n a c bs p bad) :
    Calls Tryz.prog 74 #[.pointer (some ⟨n, 0, none⟩)] w fun e w' => e = .returned (.bool (!bad && p == bs.length)) ∧ Keeps [] w w' := by
  have y0 : w.cell? ⟨n, 0, none⟩ = some (.slice a bs.length c) := cell_of_block h.row 0
  have y1 : w.cell? ⟨n, 1, none⟩ = some (.int .i64 p) := cell_of_block h.row 1
  have y2 : w.cell? ⟨n, 2, none⟩ = some (.bool bad) := cell_of_block h.row 2
  have hp : ((p : Int) == (bs.length : Int)) = (p == bs.length) := by
    by_cases e : p = bs.length
    · subst e; simp
    · rw [beq_eq_false_iff_ne.2 e, beq_eq_false_iff_ne.2 (by omega)]
  have HP := hid hp
  clear h hp
  rcases bad with _ | _
  · go_enter Tryz.func74, Tryz.ntmps74
    go_wp2_with fail
    go_quiet (fail)
    go_wp2_with fail
    go_ret
    exact ⟨by first | rw [HP.out]; rfl | (have := HP.out; simp_all), Keeps.K⟩
  · go_enter Tryz.func74, Tryz.ntmps74
    go_wp2_with fail
    go_quiet (fail)
    go_wp2_with fail
    go_ret
    exact ⟨rfl, Keeps.K⟩

theorem new2nd (w : World) (o o2 : Obj) : ((w.alloc o).alloc o2).heap[w.heap.size + 1]? = some o2 := by
  have h := heap_alloc_new (w.alloc o) o2
  rw [show (w.alloc o).heap.size = w.heap.size + 1 by simp] at h
  exact h
/-- The command under way, the document's reader: both in the call's own blocks; the bytes are the caller's. -/
structure GetSd (a : Option Addr) (q : Nat) (bs : List UInt8) (w wr : World) (c : CmdD) (p : Nat) (b : Bool) : Prop where
  row : wr.heap[w.heap.size + 1 + 1]? = some (.cells #[.int .i64 c.kind, .int .i64 c.session, .int .i64 c.seq, .string c.field, .int .i64 c.version, .int .i64 c.value.kind, .int .i64 c.value.n, .string c.value.s] 34 (0, 0))
  res : wr.heap[w.heap.size]? = some (.cells #[.int .i64 0, .int .i64 0, .int .i64 0, .string ⟨#[]⟩, .int .i64 0, .int .i64 0, .int .i64 0, .string ⟨#[]⟩] 34 (0, 0))
  rd : RdAt 112 wr (w.heap.size + 1) a q bs p b
  keeps : Keeps [] w wr
  base : Reads w 1 (.slice a bs.length q) bs.length (u8s bs)
theorem GetSd.step {a : Option Addr} {q : Nat} {bs : List UInt8} {w wr w' : World} {c : CmdD} {p p' : Nat} {b b' : Bool} (H : GetSd a q bs w wr c p b) (k : Keeps [w.heap.size + 1] wr w') (h : RdAt 112 w' (w.heap.size + 1) a q bs p' b') : GetSd a q bs w w' c p' b' :=
  ⟨(k.block _ (Array.getElem?_eq_some_iff.1 H.row).1 (by simp)).trans H.row, (k.block _ (Array.getElem?_eq_some_iff.1 H.res).1 (by simp)).trans H.res, h, H.keeps.trans k (fun x hx hx' => by simp at hx'; omega), H.base⟩
theorem GetSd.k {a : Option Addr} {q : Nat} {bs : List UInt8} {w wr w' : World} {c : CmdD} {p : Nat} {b : Bool} (H : GetSd a q bs w wr c p b) (k : Keeps [] wr w') : GetSd a q bs w w' c p b :=
  ⟨(k.block _ (Array.getElem?_eq_some_iff.1 H.row).1 (by simp)).trans H.row, (k.block _ (Array.getElem?_eq_some_iff.1 H.res).1 (by simp)).trans H.res, H.rd.k k, H.keeps.trans k (fun _ _ h => h), H.base⟩
theorem GetSd.set {a : Option Addr} {q : Nat} {bs : List UInt8} {w wr w' : World} {c c' : CmdD} {p : Nat} {b : Bool} (H : GetSd a q bs w wr c p b) (k : Keeps [w.heap.size + 1 + 1] wr w') (h : w'.heap[w.heap.size + 1 + 1]? = some (.cells #[.int .i64 c'.kind, .int .i64 c'.session, .int .i64 c'.seq, .string c'.field, .int .i64 c'.version, .int .i64 c'.value.kind, .int .i64 c'.value.n, .string c'.value.s] 34 (0, 0))) : GetSd a q bs w w' c' p b :=
  ⟨h, (k.block _ (Array.getElem?_eq_some_iff.1 H.res).1 (by simp; omega)).trans H.res, ⟨(k.block _ (Array.getElem?_eq_some_iff.1 H.rd.row).1 (by simp)).trans H.rd.row, H.rd.bytes.keepsL (P := fun b => b < w.heap.size) (fun hz b hb => H.base.lt hz b hb) k (fun b hb hm => by simp at hm; omega), H.rd.apart, H.rd.place, H.rd.short⟩, H.keeps.trans k (fun x hx hx' => by simp at hx'; omega), H.base⟩

end Go.Proofs.YtnjdepojmnniaaaGreatDoor
