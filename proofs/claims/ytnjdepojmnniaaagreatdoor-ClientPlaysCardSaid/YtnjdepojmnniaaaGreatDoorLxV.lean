/- Joined of LxT, LxU, LxV, LxW. -/
import Derived.Test.YtnjdepojmnniaaaGreatDoorQ10
import Derived.Test.YtnjdepojmnniaaaGreatDoorLxN
import Derived.Test.YtnjdepojmnniaaaGreatDoorQ02
import Derived.Test.YtnjdepojmnniaaaGreatDoorQ09
import Derived.Test.YtnjdepojmnniaaaGreatDoorQ05

set_option linter.unusedSimpArgs false
set_option linter.unusedVariables false
/- The document's lexer: its class, its place. -/
namespace Go.Proofs.YtnjdepojmnniaaaGreatDoor
open Go Go.RowKit

theorem drop_ne {l : List UInt8} {p : Nat} (h : p < l.length) : l.drop p ≠ [] := by
  intro e
  have := congrArg List.length e
  rw [List.length_drop, List.length_nil] at this
  omega
/-- The lexer at block n stands ahead of piece k. -/
structure LAt (w : World) (n : Nat) (s : ByteArray) (pa : Option Addr) (pq k : Nat) : Prop where
  row : w.heap[n]? = some (.cells #[.string s, .slice pa (pieces s.data.toList).length pq, .int .i64 k] 136 (0, 0))
  list : ListAt pcL w (fun b => b < n) (.slice pa (pieces s.data.toList).length pq) (pieces s.data.toList)
theorem LAt.lt {w : World} {n : Nat} {s : ByteArray} {pa : Option Addr} {pq k : Nat} (h : LAt w n s pa pq k) : n < w.heap.size := by
  rcases Nat.lt_or_ge n w.heap.size with g | g
  · exact g
  · have := h.row
    rw [Array.getElem?_eq_none g] at this
    cases this
theorem LAt.k {w w' : World} {n : Nat} {s : ByteArray} {pa : Option Addr} {pq k : Nat} (h : LAt w n s pa pq k) (g : Keeps [] w w') : LAt w' n s pa pq k := ⟨(g.block n h.lt (by simp)).trans h.row, h.list.k g⟩
theorem LAt.cells {w : World} {n : Nat} {s : ByteArray} {pa : Option Addr} {pq k : Nat} (h : LAt w n s pa pq k) :
    (w.cell? ⟨n, 0, none⟩ = some (.string s) ∧ w.cell? ⟨n, 1, none⟩ = some (.slice pa (pieces s.data.toList).length pq) ∧ w.cell? ⟨n, 2, none⟩ = some (.int .i64 k)) ∧ ∀ i, w.frozen? ⟨n, i, none⟩ = false := blk3 h.row
/-- The lexer's place turns. -/
theorem LAt.set {w : World} {n : Nat} {s : ByteArray} {pa : Option Addr} {pq k : Nat} (h : LAt w n s pa pq k) (k' : Nat) : LAt (w.setCell ⟨n, 2, none⟩ (.int .i64 k')) n s pa pq k' ∧ Keeps [n] w (w.setCell ⟨n, 2, none⟩ (.int .i64 k')) := by
  have g : Keeps [n] w (w.setCell ⟨n, 2, none⟩ (.int .i64 k')) := (Keeps.refl [n] w).setCell (.inl (by simp)) _
  exact ⟨⟨heap_setCell_same w n 2 _ _ _ h.row, h.list.keep g (fun b hb hb' => by simp at hb'; omega)⟩, g⟩
/-- A piece of a row, cell by cell. -/
theorem pc_get {w : World} {P : Nat → Prop} {b off n c : Nat} {l : List Pc} (h : ListAt pcL w P (.slice (some ⟨b, off, none⟩) n c) l) {i : Nat} {x : Pc} (ht : l[i]? = some x) :
    w.cell? ⟨b, off + i * 4, none⟩ = some (.int .i64 x.at_) ∧ w.cell? ⟨b, off + i * 4 + 1, none⟩ = some (.int .i64 x.n) ∧ w.cell? ⟨b, off + i * 4 + 2, none⟩ = some (.int .i32 x.r) ∧ w.cell? ⟨b, off + i * 4 + 3, none⟩ = some (.bool x.bad) := by
  obtain ⟨cs, hcs, hcell⟩ := h.get ht
  have hcs : cs = pcC x := hcs
  subst hcs
  exact ⟨hcell 0 _ rfl, hcell 1 _ rfl, hcell 2 _ rfl, hcell 3 _ rfl⟩
/-- Where a piece lies. -/
theorem LAt.addr {w : World} {n : Nat} {s : ByteArray} {pa : Option Addr} {pq k : Nat} (h : LAt w n s pa pq k) (hk : k < (pieces s.data.toList).length) : ∃ b off, pa = some ⟨b, off, none⟩ ∧ b < n ∧ b < w.heap.size ∧ (pieces s.data.toList).length ≤ pq := by
  obtain ⟨b, off, c, hv, h1, h2, h3, h4⟩ := h.list.addr (by intro e; rw [e] at hk; simp at hk)
  simp at hv
  obtain ⟨rfl, rfl⟩ := hv
  exact ⟨b, off, rfl, h4, h3, h1⟩
/-- The class ahead; -1 at the end. -/
def clsA (l : List UInt8) : Int := if l = [] then -1 else (clsL l : Int)

set_option maxRecDepth 100000 in
set_option maxHeartbeats 4000000 in
theorem r6class_any (s : ByteArray) (n : Nat) (pa : Option Addr) (pq k p : Nat) (w : World) (H : LAt w n s pa pq k) (hp : PAt s.data.toList k p) :
    Calls Tryz.prog 94 #[.pointer (some ⟨n, 0, none⟩)] w fun e w' => e = .returned (.int .i64 (clsA (s.data.toList.drop p))) ∧ Keeps [] w w' := by
  obtain ⟨⟨c0, c1, c2⟩, _⟩ := H.cells
  have i0 : (0 : Int) ≤ (k : Int) := Int.natCast_nonneg _
  obtain ⟨m, hm⟩ : ∃ m, (pieces s.data.toList).length = m := ⟨_, rfl⟩
  by_cases hk : k < (pieces s.data.toList).length
  · obtain ⟨b, off, rfl, _, _, hq⟩ := H.addr hk
    obtain ⟨hx, _⟩ := hp.next hk
    have hlt := hp.lt hk
    obtain ⟨_, _, y2, y3⟩ := pc_get H.list hx
    dsimp only at y2 y3
    have HC : Hid (clsA (s.data.toList.drop p) = (clsR (Lib.decodeL (s.data.toList.drop p)).1 : Int)) := by
      show clsA _ = _
      unfold clsA
      rw [if_neg (drop_ne hlt)]
      rfl
    have HB := hid (fun h => bad_cls (l := s.data.toList.drop p) h)
    obtain ⟨r, hr⟩ : ∃ r, (Lib.decodeL (s.data.toList.drop p)).1 = r := ⟨_, rfl⟩
    obtain ⟨bd, hbd⟩ : ∃ bd, badL (s.data.toList.drop p) = bd := ⟨_, rfl⟩
    have HB2 : Hid (bd = true → clsA (s.data.toList.drop p) = 0) := fun h => by
      have h2 := HB.out (hbd.trans h)
      unfold clsA
      rw [if_neg (drop_ne hlt), h2]
      rfl
    rw [hr] at HC y2
    rw [hbd] at y3
    rw [hm] at hk c1 hq
    have hkI : (k : Int) < (m : Int) := by omega
    have hkF : ((m : Int) ≤ (k : Int)) = False := eq_false (by omega)
    clear hp hx hr hbd hlt HB hk
    go_enter Tryz.func94, Tryz.ntmps94
    go_wp2_with fail
    refine Plan.wp_region_plan (fun wx => wx.cell? ⟨n, 1, none⟩ = some (.slice (some ⟨b, off, none⟩) m pq) ∧ wx.cell? ⟨n, 2, none⟩ = some (.int .i64 k)) 10 [(true, 0), (true, 1), (true, 2), (true, 3), (true, 4), (true, 5), (true, 6), (true, 7), (true, 8), (true, 9)] (by kernel_rfl) (by as_aux_lemma => kernel_rfl) (by kernel_rfl) (fun _ _ _ _ _ h => h) ?_ (fun hS => ?_)
    (· go_simp)
    simp only [Plan.pick, List.append_eq, List.cons_append, List.nil_append, Plan.g1, Plan.g2, Option.getD_some, List.drop_succ_cons, List.drop_zero]
    iterate 10 (first | refine Plan.tA ?_ | refine Plan.tY ?_ | refine Plan.pN ?_ | refine Plan.pU ?_ | fail)
    refine Plan.fin ?_
    go_wp2_with fail
    refine Plan.wp_region_plan (fun wx => wx.cell? ⟨n, 1, none⟩ = some (.slice (some ⟨b, off, none⟩) m pq) ∧ wx.cell? ⟨n, 2, none⟩ = some (.int .i64 k) ∧ wx.cell? ⟨b, off + k * 4 + 3, none⟩ = some (.bool bd)) 11 [(true, 0), (true, 1), (true, 2), (true, 3), (true, 4), (true, 5), (true, 6), (true, 7), (true, 8), (true, 9), (true, 10)] (by kernel_rfl) (by as_aux_lemma => kernel_rfl) (by kernel_rfl) (fun _ _ _ _ _ h => h) ?_ (fun hS => ?_)
    (· go_simp)
    simp only [Plan.pick, List.append_eq, List.cons_append, List.nil_append, Plan.g1, Plan.g2, Option.getD_some, List.drop_succ_cons, List.drop_zero]
    iterate 11 (first | refine Plan.tA ?_ | refine Plan.tY ?_ | refine Plan.pN ?_ | refine Plan.pU ?_ | fail)
    refine Plan.fin ?_
    rcases bd with _ | _
    · go_wp2_with fail
      refine Plan.wp_region_plan (fun wx => wx.cell? ⟨n, 1, none⟩ = some (.slice (some ⟨b, off, none⟩) m pq) ∧ wx.cell? ⟨n, 2, none⟩ = some (.int .i64 k) ∧ wx.cell? ⟨b, off + k * 4 + 2, none⟩ = some (.int .i32 r)) 13 [(true, 0), (true, 1), (true, 2), (true, 3), (true, 4), (true, 5), (true, 6), (true, 7), (true, 8), (true, 9), (true, 10), (false, 11), (true, 12)] (by kernel_rfl) (by as_aux_lemma => kernel_rfl) (by kernel_rfl) (fun _ _ _ _ _ h => h) ?_ (fun hS => ?_)
      (· go_simp)
      simp only [Plan.pick, List.append_eq, List.cons_append, List.nil_append, Plan.g1, Plan.g2, Option.getD_some, List.drop_succ_cons, List.drop_zero]
      iterate 11 (first | refine Plan.tA ?_ | refine Plan.tY ?_ | refine Plan.pN ?_ | refine Plan.pU ?_ | fail)
      refine Plan.step ?_
      go_wp2_with fail
      refine (r1Class_any r _).mono ?_
      rintro e w2 ⟨rfl, hk⟩
      have K : Hid (Keeps [] w w2) := Keeps.trans (G := []) (by exact Keeps.K) hk (fun _ _ h => h)
      obtain ⟨⟨c0, c1, c2⟩, _⟩ := (H.k K.out).cells
      have y2' := K.out.cellSome y2 (by simp)
      rw [hm] at c1
      clear hk
      go_wp2_with fail
      refine ⟨?_, ?_⟩
      (· go_simp)
      iterate 1 (first | refine Plan.tA ?_ | refine Plan.tY ?_ | refine Plan.pN ?_ | refine Plan.pU ?_ | fail)
      refine Plan.fin ?_
      go_wp2_with fail
      go_ret
      exact ⟨by rw [HC.out]; rfl, K.out⟩
    · have HC2 := hid (HB2.out rfl)
      go_wp2_with fail
      go_ret
      exact ⟨by rw [HC2.out]; rfl, by exact Keeps.K⟩
  · have hend := hp.end_ hk
    have HC : Hid (clsA (s.data.toList.drop p) = -1) := by
      show clsA _ = _
      unfold clsA
      rw [if_pos (by rw [hend]; simp)]
    rw [hm] at hk c1
    have hkF : (m : Int) ≤ (k : Int) := by omega
    clear hp hend hk
    go_enter Tryz.func94, Tryz.ntmps94
    go_wp2_with fail
    refine Plan.wp_region_plan (fun wx => wx.cell? ⟨n, 1, none⟩ = some (.slice pa m pq) ∧ wx.cell? ⟨n, 2, none⟩ = some (.int .i64 k)) 10 [(true, 0), (true, 1), (true, 2), (true, 3), (true, 4), (true, 5), (true, 6), (true, 7), (true, 8), (true, 9)] (by kernel_rfl) (by as_aux_lemma => kernel_rfl) (by kernel_rfl) (fun _ _ _ _ _ h => h) ?_ (fun hS => ?_)
    (· go_simp)
    simp only [Plan.pick, List.append_eq, List.cons_append, List.nil_append, Plan.g1, Plan.g2, Option.getD_some, List.drop_succ_cons, List.drop_zero]
    iterate 10 (first | refine Plan.tA ?_ | refine Plan.tY ?_ | refine Plan.pN ?_ | refine Plan.pU ?_ | fail)
    refine Plan.fin ?_
    go_wp2_with fail
    go_ret
    exact ⟨by rw [HC.out]; rfl, by exact Keeps.K⟩

set_option maxRecDepth 100000 in
set_option maxHeartbeats 4000000 in
theorem r6here_any (s : ByteArray) (n : Nat) (pa : Option Addr) (pq k p : Nat) (w : World) (H : LAt w n s pa pq k) (hp : PAt s.data.toList k p) :
    Calls Tryz.prog 110 #[.pointer (some ⟨n, 0, none⟩)] w fun e w' => e = .returned (.int .i64 p) ∧ Keeps [] w w' := by
  obtain ⟨⟨c0, c1, c2⟩, _⟩ := H.cells
  have i0 : (0 : Int) ≤ (k : Int) := Int.natCast_nonneg _
  obtain ⟨m, hm⟩ : ∃ m, (pieces s.data.toList).length = m := ⟨_, rfl⟩
  by_cases hk : k < (pieces s.data.toList).length
  · obtain ⟨b, off, rfl, _, _, hq⟩ := H.addr hk
    obtain ⟨hx, _⟩ := hp.next hk
    obtain ⟨y0, _, _, _⟩ := pc_get H.list hx
    dsimp only at y0
    rw [hm] at hk c1 hq
    have hkI : (k : Int) < (m : Int) := by omega
    have hkF : ((m : Int) ≤ (k : Int)) = False := eq_false (by omega)
    clear hp hx hk
    go_enter Tryz.func110, Tryz.ntmps110
    go_wp2_with fail
    refine Plan.wp_region_plan (fun wx => wx.cell? ⟨n, 1, none⟩ = some (.slice (some ⟨b, off, none⟩) m pq) ∧ wx.cell? ⟨n, 2, none⟩ = some (.int .i64 k)) 10 [(true, 0), (true, 1), (true, 2), (true, 3), (true, 4), (true, 5), (true, 6), (true, 7), (true, 8), (true, 9)] (by kernel_rfl) (by as_aux_lemma => kernel_rfl) (by kernel_rfl) (fun _ _ _ _ _ h => h) ?_ (fun hS => ?_)
    (· go_simp)
    simp only [Plan.pick, List.append_eq, List.cons_append, List.nil_append, Plan.g1, Plan.g2, Option.getD_some, List.drop_succ_cons, List.drop_zero]
    iterate 10 (first | refine Plan.tA ?_ | refine Plan.tY ?_ | refine Plan.pN ?_ | refine Plan.pU ?_ | fail)
    refine Plan.fin ?_
    go_wp2_with fail
    refine Plan.wp_region_plan (fun wx => wx.cell? ⟨n, 1, none⟩ = some (.slice (some ⟨b, off, none⟩) m pq) ∧ wx.cell? ⟨n, 2, none⟩ = some (.int .i64 k) ∧ wx.cell? ⟨b, off + k * 4, none⟩ = some (.int .i64 p)) 12 [(true, 0), (true, 1), (true, 2), (true, 3), (true, 4), (true, 5), (true, 6), (true, 7), (true, 8), (true, 9), (true, 10), (true, 11)] (by kernel_rfl) (by as_aux_lemma => kernel_rfl) (by kernel_rfl) (fun _ _ _ _ _ h => h) ?_ (fun hS => ?_)
    (· go_simp)
    simp only [Plan.pick, List.append_eq, List.cons_append, List.nil_append, Plan.g1, Plan.g2, Option.getD_some, List.drop_succ_cons, List.drop_zero]
    iterate 12 (first | refine Plan.tA ?_ | refine Plan.tY ?_ | refine Plan.pN ?_ | refine Plan.pU ?_ | fail)
    refine Plan.fin ?_
    go_wp2_with fail
    go_ret
    exact ⟨rfl, by exact Keeps.K⟩
  · have hend := hp.end_ hk
    have hend2 : p = s.size := hend.trans Array.length_toList
    rw [hm] at hk c1
    have hkF : (m : Int) ≤ (k : Int) := by omega
    clear hp hend hk
    go_enter Tryz.func110, Tryz.ntmps110
    go_wp2_with fail
    refine Plan.wp_region_plan (fun wx => wx.cell? ⟨n, 1, none⟩ = some (.slice pa m pq) ∧ wx.cell? ⟨n, 2, none⟩ = some (.int .i64 k)) 10 [(true, 0), (true, 1), (true, 2), (true, 3), (true, 4), (true, 5), (true, 6), (true, 7), (true, 8), (true, 9)] (by kernel_rfl) (by as_aux_lemma => kernel_rfl) (by kernel_rfl) (fun _ _ _ _ _ h => h) ?_ (fun hS => ?_)
    (· go_simp)
    simp only [Plan.pick, List.append_eq, List.cons_append, List.nil_append, Plan.g1, Plan.g2, Option.getD_some, List.drop_succ_cons, List.drop_zero]
    iterate 10 (first | refine Plan.tA ?_ | refine Plan.tY ?_ | refine Plan.pN ?_ | refine Plan.pU ?_ | fail)
    refine Plan.fin ?_
    go_wp2_with fail
    go_ret
    exact ⟨by rw [hend2]; rfl, by exact Keeps.K⟩

end Go.Proofs.YtnjdepojmnniaaaGreatDoor

/- The document's lexer, plain: escapes and texts by pieces. -/
namespace Go.Proofs.YtnjdepojmnniaaaGreatDoor
open Go

theorem hx_app : ∀ (l m : List UInt8) (u : Nat), hx (l ++ m) u = (hx l u).bind (hx m)
  | [], _, _ => rfl
  | x :: r, m, u => by
    show hx (x :: (r ++ m)) u = (hx (x :: r) u).bind (hx m)
    unfold hx
    rcases hexV x with _ | d
    · rfl
    · exact hx_app r m _
/-- One digit more. -/
theorem hx_next {t : List UInt8} {j v : Nat} (h : hx (t.take j) 0 = some v) {c : UInt8} (hc : t[j]? = some c) : hx (t.take (j + 1)) 0 = (hexV c).map fun d => v * 16 + d := by
  rw [List.take_add_one, hc, hx_app, h]
  show hx [c] v = _
  unfold hx
  rcases hexV c with _ | d <;> rfl
/-- A digit that is none ends it. -/
theorem hx_stop {t : List UInt8} {j : Nat} (h : hx (t.take j) 0 = none) (m : Nat) (hm : j ≤ m) : hx (t.take m) 0 = none := by
  have e : t.take m = t.take j ++ (t.take m).drop j := by
    conv => lhs; rw [← List.take_append_drop j (t.take m)]
    rw [List.take_take, Nat.min_eq_left hm]
  rw [e, hx_app, h]
  rfl
theorem esc_fail {b : UInt8} {t : List UInt8} (h1 : ¬ (b.toNat = 34 ∨ b.toNat = 92)) (h2 : b.toNat = 117) (h : t.length < 4 ∨ hx (t.take 4) 0 = none) (a : UInt8) : (escL (a :: b :: t)).2 = 0 := by
  rcases Nat.lt_or_ge t.length 4 with hl | hl
  · rw [escL_short h1 hl]
  · rcases h with h | h
    · omega
    · rw [escL_hx h1 h2 hl, h]
theorem esc_done {b : UInt8} {t : List UInt8} {v : Nat} (h1 : ¬ (b.toNat = 34 ∨ b.toNat = 92)) (h2 : b.toNat = 117) (hl : 4 ≤ t.length) (h : hx (t.take 4) 0 = some v) (a : UInt8) : escL (a :: b :: t) = if 55296 ≤ v ∧ v ≤ 57343 then (0, 0) else (v, 6) := by
  rw [escL_hx h1 h2 hl, h]
/-- The rune ahead as a digit. -/
theorem hexV_rune {l : List UInt8} (hl : l ≠ []) : ∃ c t, l = c :: t ∧ ((48 ≤ (Lib.decodeL l).1 ∧ (Lib.decodeL l).1 ≤ 57) → hexV c = some ((Lib.decodeL l).1 - 48) ∧ wid l = 1) ∧ ((97 ≤ (Lib.decodeL l).1 ∧ (Lib.decodeL l).1 ≤ 102) → hexV c = some ((Lib.decodeL l).1 - 87) ∧ wid l = 1) ∧ (¬ (48 ≤ (Lib.decodeL l).1 ∧ (Lib.decodeL l).1 ≤ 57) → ¬ (97 ≤ (Lib.decodeL l).1 ∧ (Lib.decodeL l).1 ≤ 102) → hexV c = none) := by
  rcases l with _ | ⟨c, t⟩
  · exact absurd rfl hl
  · refine ⟨c, t, rfl, ?_⟩
    rcases Nat.lt_or_ge c.toNat 128 with h | h
    · have hd := decode_byte c t h
      have hw : wid (c :: t) = 1 := by unfold wid; rw [hd]
      rw [hd, hw]
      dsimp only
      unfold hexV
      refine ⟨fun g => ⟨if_pos g, rfl⟩, fun g => ⟨by rw [if_neg (by omega), if_pos g], rfl⟩, fun g1 g2 => by rw [if_neg g1, if_neg g2]⟩
    · have hge : 128 ≤ (Lib.decodeL (c :: t)).1 := by
        rcases Nat.lt_or_ge (Lib.decodeL (c :: t)).1 128 with g | g
        · obtain ⟨t', ht⟩ := dec_head (l := c :: t) (by simp) g rfl
          injection ht with ht _
          rw [ht, ofNat_toNat _ (by omega)] at h
          omega
        · exact g
      have hn : hexV c = none := by
        unfold hexV
        rw [if_neg (by omega), if_neg (by omega)]
      exact ⟨fun g => by omega, fun g => by omega, fun _ _ => hn⟩
/-- The byte ahead, by the rune ahead. -/
theorem head_rune {l : List UInt8} (hl : l ≠ []) : ∃ c t, l = c :: t ∧ ∀ x, x < 128 → (c.toNat = x ↔ (Lib.decodeL l).1 = x) := by
  rcases l with _ | ⟨c, t⟩
  · exact absurd rfl hl
  · refine ⟨c, t, rfl, fun x hx => ⟨fun h => ?_, fun h => ?_⟩⟩
    · rw [decode_byte c t (by omega)]; exact h
    · obtain ⟨t', ht⟩ := dec_head (l := c :: t) (by simp) (by omega) h
      injection ht with ht _
      rw [ht, ofNat_toNat _ (by omega)]

/-- The document's text, piece by piece: q bytes read, the bytes so far, as so many runes. -/
structure TxAt (l : List UInt8) (q : Nat) (acc : List UInt8) (n : Nat) : Prop where
  le : q ≤ l.length
  rest : ∀ f, (l.drop q).length < f → unqL l = unqGo f (l.drop q) acc q
  runes : ∃ rs, acc = encs rs ∧ rs.length = n ∧ ∀ r ∈ rs, r < 55296 ∨ (57344 ≤ r ∧ r ≤ 1114111)
theorem unq_fuel : ∀ (f g : Nat) (l acc : List UInt8) (p : Nat), l.length < f → l.length < g → unqGo f l acc p = unqGo g l acc p
  | 0, _, _, _, _, h, _ => by omega
  | _, 0, _, _, _, _, h => by omega
  | f + 1, g + 1, l, acc, p, hf, hg => by
    rw [unqGo_succ, unqGo_succ]
    by_cases hl : l = []
    · rw [if_pos hl, if_pos hl]
    · have hpos := List.length_pos_iff.2 hl
      have hw := Lib.decodeL_width l
      have h1 : (l.drop (Lib.decodeL l).2).length < f ∧ (l.drop (Lib.decodeL l).2).length < g := by rw [List.length_drop]; omega
      rw [unq_fuel f g _ (acc ++ Lib.encodeRune ((Lib.decodeL l).1 : Int)) (p + (Lib.decodeL l).2) h1.1 h1.2]
      by_cases he : (escL l).2 = 0
      · simp only [he, if_true]
      · have h2 : (l.drop (escL l).2).length < f ∧ (l.drop (escL l).2).length < g := by rw [List.length_drop]; omega
        rw [unq_fuel f g _ (acc ++ Lib.encodeRune ((escL l).1 : Int)) (p + (escL l).2) h2.1 h2.2]
theorem TxAt.zero {t : List UInt8} : TxAt (34 :: t) 1 [] 0 := ⟨by simp, fun f hf => by
  have hf' : t.length < f := by simpa using hf
  show (if (34 : UInt8).toNat = 34 then unqGo (t.length + 1) t [] 1 else none) = unqGo f t [] 1
  rw [if_pos (by decide)]
  exact unq_fuel _ _ _ _ _ (by omega) hf', ⟨[], rfl, rfl, fun _ h => by cases h⟩⟩
theorem TxAt.at_ {l acc : List UInt8} {q n : Nat} (h : TxAt l q acc n) : unqL l = if l.drop q = [] then none else if (Lib.decodeL (l.drop q)).1 = 34 then some (acc, q + 1)
    else if (Lib.decodeL (l.drop q)).1 = 92 then (if (escL (l.drop q)).2 = 0 then none else unqGo ((l.drop q).length) ((l.drop q).drop (escL (l.drop q)).2) (acc ++ Lib.encodeRune ((escL (l.drop q)).1 : Int)) (q + (escL (l.drop q)).2))
    else if ((Lib.decodeL (l.drop q)).1 = 65533 ∧ (Lib.decodeL (l.drop q)).2 = 1) ∨ ctlR (Lib.decodeL (l.drop q)).1 = true then none
    else unqGo ((l.drop q).length) ((l.drop q).drop (Lib.decodeL (l.drop q)).2) (acc ++ Lib.encodeRune ((Lib.decodeL (l.drop q)).1 : Int)) (q + (Lib.decodeL (l.drop q)).2) := by
  rw [h.rest ((l.drop q).length + 1) (by omega), unqGo_succ]
theorem TxAt.count {l acc : List UInt8} {q n : Nat} (h : TxAt l q acc n) : runesL acc = n := by
  obtain ⟨rs, h1, h2, h3⟩ := h.runes
  rw [h1, runesL_encs rs h3, h2]
theorem TxAt.open_ {l acc : List UInt8} {q n : Nat} (h : TxAt l q acc n) (hq : ¬ q < l.length) : unqL l = none := by
  rw [h.at_, if_pos (by rw [List.drop_of_length_le (by omega)])]
theorem TxAt.close {l acc : List UInt8} {q n : Nat} (h : TxAt l q acc n) (hq : q < l.length) (h34 : (Lib.decodeL (l.drop q)).1 = 34) : unqL l = some (acc, q + 1) ∧ wid (l.drop q) = 1 := by
  have hne : l.drop q ≠ [] := by simp; omega
  rw [h.at_, if_neg hne, if_pos h34]
  exact ⟨rfl, (dec34 hne (by omega) h34).1⟩
theorem TxAt.bad {l acc : List UInt8} {q n : Nat} (h : TxAt l q acc n) (hq : q < l.length) (hb : badL (l.drop q) = true ∨ ctlR (Lib.decodeL (l.drop q)).1 = true) : unqL l = none := by
  have hne : l.drop q ≠ [] := by simp; omega
  have hc : ((Lib.decodeL (l.drop q)).1 = 65533 ∧ (Lib.decodeL (l.drop q)).2 = 1) ∨ ctlR (Lib.decodeL (l.drop q)).1 = true := hb.imp (fun h => (badL_iff _).1 h) id
  have h34 : (Lib.decodeL (l.drop q)).1 ≠ 34 := by
    rcases hc with ⟨h, _⟩ | h
    · omega
    · intro e; rw [e] at h; exact absurd h (by decide)
  have h92 : (Lib.decodeL (l.drop q)).1 ≠ 92 := by
    rcases hc with ⟨h, _⟩ | h
    · omega
    · intro e; rw [e] at h; exact absurd h (by decide)
  rw [h.at_, if_neg hne, if_neg h34, if_neg h92, if_pos hc]
theorem TxAt.escBad {l acc : List UInt8} {q n : Nat} (h : TxAt l q acc n) (hq : q < l.length) (h92 : (Lib.decodeL (l.drop q)).1 = 92) (he : (escL (l.drop q)).2 = 0) : unqL l = none := by
  have hne : l.drop q ≠ [] := by simp; omega
  rw [h.at_, if_neg hne, if_neg (by omega), if_pos h92, if_pos he]
theorem TxAt.esc {l acc : List UInt8} {q n : Nat} (h : TxAt l q acc n) (hq : q < l.length) (h92 : (Lib.decodeL (l.drop q)).1 = 92) (he : (escL (l.drop q)).2 ≠ 0) (hv : (escL (l.drop q)).1 < 55296 ∨ (57344 ≤ (escL (l.drop q)).1 ∧ (escL (l.drop q)).1 ≤ 1114111)) : TxAt l (q + (escL (l.drop q)).2) (acc ++ Lib.encodeRune ((escL (l.drop q)).1 : Int)) (n + 1) := by
  have hne : l.drop q ≠ [] := by simp; omega
  have hle := (escL_le (l.drop q)).1
  rw [List.length_drop] at hle
  refine ⟨by omega, fun f hf => ?_, ?_⟩
  · rw [h.at_, if_neg hne, if_neg (by omega), if_pos h92, if_neg he, List.drop_drop]
    rw [List.length_drop] at hf
    exact unq_fuel (l.drop q).length f _ _ _ (by rw [List.length_drop, List.length_drop]; omega) (by rw [List.length_drop]; omega)
  · obtain ⟨rs, h1, h2, h3⟩ := h.runes
    refine ⟨rs ++ [(escL (l.drop q)).1], by rw [encs_snoc, h1], by simp [h2], fun r hr => ?_⟩
    rcases List.mem_append.1 hr with hr | hr
    · exact h3 r hr
    · obtain rfl : r = _ := by simpa using hr
      exact hv
theorem TxAt.step {l acc : List UInt8} {q n : Nat} (h : TxAt l q acc n) (hq : q < l.length) (h34 : (Lib.decodeL (l.drop q)).1 ≠ 34) (h92 : (Lib.decodeL (l.drop q)).1 ≠ 92) (hb : ¬ (badL (l.drop q) = true ∨ ctlR (Lib.decodeL (l.drop q)).1 = true)) : TxAt l (q + wid (l.drop q)) (acc ++ Lib.encodeRune ((Lib.decodeL (l.drop q)).1 : Int)) (n + 1) := by
  have hne : l.drop q ≠ [] := by simp; omega
  have hw := wid_le hne
  have hwp := wid_pos (l.drop q)
  rw [List.length_drop] at hw
  have hc : ¬ (((Lib.decodeL (l.drop q)).1 = 65533 ∧ (Lib.decodeL (l.drop q)).2 = 1) ∨ ctlR (Lib.decodeL (l.drop q)).1 = true) := fun g => hb (g.imp (fun h => (badL_iff _).2 h) id)
  refine ⟨by omega, fun f hf => ?_, ?_⟩
  · rw [h.at_, if_neg hne, if_neg h34, if_neg h92, if_neg hc, List.drop_drop]
    rw [List.length_drop] at hf
    have e : (Lib.decodeL (l.drop q)).2 = wid (l.drop q) := rfl
    rw [e]
    exact unq_fuel (l.drop q).length f _ _ _ (by rw [List.length_drop, List.length_drop]; omega) (by rw [List.length_drop]; omega)
  · obtain ⟨rs, h1, h2, h3⟩ := h.runes
    refine ⟨rs ++ [(Lib.decodeL (l.drop q)).1], by rw [encs_snoc, h1], by simp [h2], fun r hr => ?_⟩
    rcases List.mem_append.1 hr with hr | hr
    · exact h3 r hr
    · obtain rfl : r = _ := by simpa using hr
      exact decodeL_valid _
/-- What the escape gives is a rune. -/
theorem esc_rune (l : List UInt8) : (escL l).1 < 55296 ∨ (57344 ≤ (escL l).1 ∧ (escL l).1 ≤ 1114111) := by
  rcases (escL_le l).2.2 with h | h
  · exact .inl h
  · exact .inr (by omega)
theorem encs_len : ∀ (rs : List Nat), (encs rs).length ≤ 4 * rs.length
  | [] => by simp [encs]
  | r :: rs => by
    have h := encs_len rs
    have h1 := Lib.runeCells_le (r : Int)
    rw [Lib.runeCells_length] at h1
    show (Lib.encodeRune (r : Int) ++ encs rs).length ≤ _
    rw [List.length_append, List.length_cons]
    omega
theorem TxAt.len {l acc : List UInt8} {q n : Nat} (h : TxAt l q acc n) : acc.length ≤ 4 * n := by
  obtain ⟨rs, h1, h2, _⟩ := h.runes
  rw [h1, ← h2]
  exact encs_len rs
/-- Pieces and places rise together. -/
theorem PAt.uniq {l : List UInt8} {k p q : Nat} (h : PAt l k p) (g : PAt l k q) : p = q := by
  by_cases hk : k < (pieces l).length
  · have h1 := (h.next hk).1
    rw [(g.next hk).1] at h1
    injection h1 with h1
    injection h1 with h1 _
    exact h1.symm
  · rw [h.end_ hk, g.end_ hk]
theorem PAt.on {l : List UInt8} {k p : Nat} (h : PAt l k p) : ∀ (j : Nat), k + j ≤ (pieces l).length → ∃ q, p ≤ q ∧ PAt l (k + j) q
  | 0, _ => ⟨p, Nat.le_refl _, h⟩
  | j + 1, hj => by
    obtain ⟨q, h1, h2⟩ := h.on j (by omega)
    exact ⟨_, Nat.le_trans h1 (Nat.le_add_right _ _), (h2.next (by omega)).2⟩
theorem PAt.rise {l : List UInt8} {k k' p p' : Nat} (h : PAt l k p) (h' : PAt l k' p') (hp : p < p') : k < k' := by
  rcases Nat.lt_or_ge k k' with g | g
  · exact g
  · obtain ⟨q, h1, h2⟩ := h'.on (k - k') (by have := h.1; omega)
    rw [show k' + (k - k') = k by omega] at h2
    have := h.uniq h2
    omega
/-- The token ahead is a text. -/
theorem one_text_at {l : List UInt8} (h : l.head? = some 34) : oneD l = match unqL l with
    | none => none
    | some (t, k) => if runesL t ≤ 100 then some (⟨2, t, 0, 0⟩, k) else none := by
  rcases l with _ | ⟨c, t⟩
  · cases h
  · obtain rfl : c = 34 := by simpa using h
    have hc : clsL (34 :: t) = 0 := by
      unfold clsL
      rw [decode_byte 34 t (by decide)]
      decide
    unfold oneD
    rw [if_neg (by rw [hc]; decide), if_neg (by rw [hc]; decide), if_pos (show (34 :: t).head? = some 34 from rfl)]
    rfl

end Go.Proofs.YtnjdepojmnniaaaGreatDoor

/- The document's lexer: a number, a name. -/
namespace Go.Proofs.YtnjdepojmnniaaaGreatDoor
open Go Go.RowKit

/-- What comes back of a token: the token that it is, and the place behind; or none, and where it would have begun. -/
def TokPost (s : ByteArray) (n : Nat) (pa : Option Addr) (pq p : Nat) (w : World) (e : Ending) (w' : World) : Prop :=
  match oneD (s.data.toList.drop p) with
  | none => ∃ kd ss nn, e = .returned (.tuple #[.agg #[.int .i64 kd, .string ss, .int .i64 nn, .int .i64 p], .bool false]) ∧ Keeps [n] w w'
  | some (t, d) => e = .returned (.tuple #[.agg #[.int .i64 t.kind, .string (str t.s), .int .i64 t.n, .int .i64 p], .bool true]) ∧ (∃ k', PAt s.data.toList k' (p + d) ∧ LAt w' n s pa pq k') ∧ Keeps [n] w w'
/-- Which piece is next, as the memory has it. -/
def ixAt (w : World) (n : Nat) : Nat := match w.cell? ⟨n, 2, none⟩ with
  | some (.int _ i) => i.toNat
  | _ => 0
theorem LAt.ix {w : World} {n : Nat} {s : ByteArray} {pa : Option Addr} {pq k : Nat} (h : LAt w n s pa pq k) : ixAt w n = k := by
  unfold ixAt
  rw [h.cells.1.2.2]
  simp
theorem LAt.far {w w' : World} {n : Nat} {s : ByteArray} {pa : Option Addr} {pq k : Nat} {F : List Nat} (h : LAt w n s pa pq k) (g : Keeps F w w') (hF : ∀ b ∈ F, n < b) : LAt w' n s pa pq k :=
  ⟨(g.block n h.lt (fun hb => Nat.lt_irrefl _ (hF n hb))).trans h.row, h.list.keep g (fun b hb hb' => by have := hF b hb'; omega)⟩
theorem LAt.go {w : World} {n : Nat} {s : ByteArray} {pa : Option Addr} {pq k : Nat} (h : LAt w n s pa pq k) {z : Int} (hz : z = ((k + 1 : Nat) : Int)) : LAt (w.setCell ⟨n, 2, none⟩ (.int .i64 z)) n s pa pq (k + 1) := by
  subst hz
  exact (h.set (k + 1)).1
/-- What a walk knows at its end. -/
theorem TokPost.some_ {s : ByteArray} {n : Nat} {pa : Option Addr} {pq p k' : Nat} {w wF : World} {t : TokD} {d : Nat} (h : oneD (s.data.toList.drop p) = some (t, d)) (hk : PAt s.data.toList k' (p + d)) (hl : LAt wF n s pa pq k') (g : Keeps [n] w wF) :
    TokPost s n pa pq p w (.returned (.tuple #[.agg #[.int .i64 t.kind, .string (str t.s), .int .i64 t.n, .int .i64 p], .bool true])) wF := by
  unfold TokPost
  rw [h]
  exact ⟨rfl, ⟨k', hk, hl⟩, g⟩
theorem TokPost.none_ {s : ByteArray} {n : Nat} {pa : Option Addr} {pq p : Nat} {w wF : World} {kd nn : Int} {ss : ByteArray} (h : oneD (s.data.toList.drop p) = none) (g : Keeps [n] w wF) :
    TokPost s n pa pq p w (.returned (.tuple #[.agg #[.int .i64 kd, .string ss, .int .i64 nn, .int .i64 p], .bool false])) wF := by
  unfold TokPost
  rw [h]
  exact ⟨kd, ss, nn, rfl, g⟩
/-- The digits so far. -/
def NumSt (ok : Bool) (N V : Nat) : Prop := (ok = true ∧ N = V) ∨ (ok = false ∧ 9223372036854775807 < V)

set_option maxRecDepth 100000 in
set_option maxHeartbeats 4000000 in
theorem r6num_any (s : ByteArray) (n : Nat) (pa : Option Addr) (pq k p : Nat) (w : World) (H : LAt w n s pa pq k) (hp : PAt s.data.toList k p) (hk : k < (pieces s.data.toList).length) (hc : clsL (s.data.toList.drop p) = 2) (hs : s.size ≤ 400) :
    Calls Tryz.prog 95 #[.pointer (some ⟨n, 0, none⟩)] w (TokPost s n pa pq p w) := by
  have HH := hid H
  have HL : Hid (s.data.toList.length = s.size) := Array.length_toList
  have hlt := hp.lt hk
  have hne := drop_ne hlt
  obtain ⟨R, hR⟩ : ∃ R, runL 2 2 (s.data.toList.drop p) = R := ⟨_, rfl⟩
  have HD : Hid (oneD (s.data.toList.drop p) = if decV ((s.data.toList.drop p).take R) ≤ 9223372036854775807 then some (⟨1, [], decV ((s.data.toList.drop p).take R), 0⟩, R) else none) := by
    show _ = _
    unfold oneD
    rw [if_pos hc, hR]
  have HR := hid hR
  have HP := hid hp
  have hm := hp.le.1
  clear hc hR hne hlt hk hp H
  go_enter Tryz.func95, Tryz.ntmps95
  go_wp2_with fail
  refine (r6here_any s n pa pq k p _ (HH.out.k (by exact Keeps.K)) HP.out).mono ?_
  rintro e w2 ⟨rfl, hk⟩
  have K2 : Hid (Keeps [] w w2) := Keeps.trans (G := []) (by exact Keeps.K) hk (fun _ _ h => h)
  have HZ2 : w.heap.size < w2.heap.size := by have := hk.size; simp at this; omega
  have HB2 : Hid (w2.heap[w.heap.size]? = some (.cells #[.int .i64 0, .string ⟨#[]⟩, .int .i64 0, .int .i64 0] 93 (0, 0))) := (hk.block _ (by simp) (by simp)).trans (heap_alloc_new _ _)
  have HL2 : Hid (LAt w2 n s pa pq k) := HH.out.k K2.out
  have hnw : n < w.heap.size := HH.out.lt
  clear hk
  go_wp2_with fail
  go_loopw [5] (fun okv wr => ∃ (ok : Bool) (q N k2 : Nat), okv = .bool ok ∧ N ≤ 9223372036854775807 ∧ w2.heap.size < wr.heap.size ∧ Hid (PAt s.data.toList k2 (p + q) ∧ R = q + runL 2 2 (s.data.toList.drop (p + q)) ∧ NumSt ok N (decV ((s.data.toList.drop p).take q)) ∧ LAt wr n s pa pq k2 ∧ wr.heap[w.heap.size]? = some (.cells #[.int .i64 0, .string ⟨#[]⟩, .int .i64 0, .int .i64 0] 93 (0, 0)) ∧ wr.heap[w2.heap.size]? = some (.cells #[.int .i64 1, .string ⟨#[]⟩, .int .i64 N, .int .i64 p] 93 (0, 0)) ∧ Keeps [n] w wr)) (fun _ wr => (pieces s.data.toList).length - ixAt wr n)
  case atStart =>
    refine ⟨true, 0, 0, k, rfl, by decide, by simp, HP.out, by rw [Nat.zero_add]; exact HR.out.symm, .inl ⟨rfl, by simp [decV]⟩, HL2.out.k (by exact Keeps.K), ?_, heap_alloc_new _ _, (K2.out.alloc _).mono (fun _ _ h => by cases h)⟩
    exact (((Keeps.refl [] w2).alloc _).block w.heap.size HZ2 (by simp)).trans HB2.out
  case round =>
    obtain ⟨ok, q, N, k2, rfl, hN, hsz, HW⟩ := hrel
    obtain ⟨a1, a2, a3, a4, a5, a6, a7⟩ := HW.out
    have HPK := hid a1
    have HRR := hid a2
    have HNS := hid a3
    have HLA := hid a4
    have HB5 := hid a5
    have HB6 := hid a6
    have HK := hid a7
    clear a1 a2 a3 a4 a5 a6 a7 HW
    go_wp2_with fail
    refine (r6class_any s n pa pq k2 (p + q) _ (HLA.out.k (by exact Keeps.K)) HPK.out).mono ?_
    rintro e w5 ⟨rfl, hk⟩
    have K5 : Hid (Keeps [n] w w5) := HK.out.trans (G := []) (Keeps.trans (G := []) (by exact Keeps.K) hk (fun _ _ h => h)) (fun _ _ h => by cases h)
    have HLA5 : Hid (LAt w5 n s pa pq k2) := HLA.out.k (Keeps.trans (G := []) (by exact Keeps.K) hk (fun _ _ h => h))
    have K05 : Hid (Keeps [] wr w5) := Keeps.trans (G := []) (by exact Keeps.K) hk (fun _ _ h => h)
    have hsz5 : w2.heap.size < w5.heap.size := Nat.lt_of_lt_of_le hsz K05.out.size
    have HB55 : Hid _ := (K05.out.block w.heap.size (Nat.lt_trans HZ2 hsz) (by simp)).trans HB5.out
    have HB56 : Hid _ := (K05.out.block w2.heap.size hsz (by simp)).trans HB6.out
    have hk2 := HPK.out.le
    obtain ⟨⟨e0, e1, e2, e3⟩, f1⟩ := blk4 HB56.out
    obtain ⟨⟨c0, c1, c2⟩, f2⟩ := HLA5.out.cells
    have hnn : n ≠ w2.heap.size := by omega
    clear hk
    by_cases hc2 : clsA (s.data.toList.drop (p + q)) = 2
    · have hkk : k2 < (pieces s.data.toList).length := by
        rcases Nat.lt_or_ge k2 (pieces s.data.toList).length with h | h
        · exact h
        · have := HPK.out.end_ (by omega)
          rw [this, List.drop_of_length_le (Nat.le_refl _)] at hc2
          exact absurd hc2 (by decide)
      have hlt := HPK.out.lt hkk
      have hne := drop_ne hlt
      have hcl : clsL (s.data.toList.drop (p + q)) = 2 := by
        unfold clsA at hc2
        rw [if_neg hne] at hc2
        omega
      obtain ⟨ch, tl, hd, h48, h57, hwd, hrn⟩ := cls_two hne hcl
      obtain ⟨hx, hpn⟩ := HPK.out.next hkk
      rw [hwd] at hpn
      obtain ⟨b, off, rfl, hbn, _, hq⟩ := HLA5.out.addr hkk
      obtain ⟨_, _, y2, _⟩ := pc_get HLA5.out.list hx
      dsimp only at y2
      rw [hrn] at y2
      obtain ⟨d, hd48⟩ : ∃ d : Nat, ch.toNat = d + 48 := ⟨ch.toNat - 48, by omega⟩
      have hd9 : d ≤ 9 := by omega
      have HPN : Hid (PAt s.data.toList (k2 + 1) (p + (q + 1))) := hpn
      have HV : Hid (decV ((s.data.toList.drop p).take (q + 1)) = decV ((s.data.toList.drop p).take q) * 10 + d) := by
        show _ = _
        have h1 : (s.data.toList.drop p)[q]? = some ch := by
          rw [List.getElem?_drop]
          have := congrArg List.head? hd
          rw [List.head?_drop] at this
          exact this
        rw [List.take_add_one, h1]
        show decV (_ ++ [ch]) = _
        rw [decV_snoc, hd48, Nat.add_sub_cancel]
      have HR2 : Hid (R = q + 1 + runL 2 2 (s.data.toList.drop (p + (q + 1)))) := by
        have h1 := HRR.out
        rw [runL_in hne (.inl hcl), hwd, List.drop_drop] at h1
        show R = _
        rw [h1, Nat.add_assoc p q 1]
        omega
      rw [hd48] at y2
      have hkI : (k2 : Int) < ((pieces s.data.toList).length : Int) := by omega
      have k0 : (0 : Int) ≤ (k2 : Int) := Int.natCast_nonneg _
      have hL := HL.out
      have k1 : (k2 : Int) ≤ 400 := by omega
      obtain ⟨M, hM⟩ : ∃ M : Nat, (9223372036854775807 - d) / 10 = M := ⟨_, rfl⟩
      have m0 : ((d + 48 : Nat) : Int) - 48 = (d : Int) := by omega
      have m1 : (9223372036854775807 - (d : Int)).tdiv 10 = (M : Int) := by
        rw [Int.tdiv_eq_ediv_of_nonneg (by omega)]; omega
      have d0 : (0 : Int) ≤ (d : Int) := Int.natCast_nonneg _
      have d1 : (d : Int) ≤ 9 := by omega
      clear hpn hx hcl hlt hne hd h48 h57 hwd hrn hd48 hL
      rw [hc2]
      clear hc2
      go_wp2_with fail
      refine Plan.wp_region_plan (fun wx => wx.cell? ⟨n, 1, none⟩ = some (.slice (some ⟨b, off, none⟩) (pieces s.data.toList).length pq) ∧ wx.cell? ⟨n, 2, none⟩ = some (.int .i64 k2) ∧ wx.cell? ⟨b, off + k2 * 4 + 2, none⟩ = some (.int .i32 (d + 48 : Nat))) 14 [(true, 0), (true, 1), (true, 2), (true, 3), (true, 4), (true, 5), (true, 6), (true, 7), (true, 8), (true, 9), (true, 10), (true, 11), (true, 12), (true, 13)] (by kernel_rfl) (by as_aux_lemma => kernel_rfl) (by kernel_rfl) (fun _ _ _ _ _ h => h) ?_ (fun hS => ?_)
      (· go_simp)
      simp only [Plan.pick, List.append_eq, List.cons_append, List.nil_append, Plan.g1, Plan.g2, Option.getD_some, List.drop_succ_cons, List.drop_zero]
      iterate 14 (first | refine Plan.tA ?_ | refine Plan.tY ?_ | refine Plan.pN ?_ | refine Plan.pU ?_ | fail)
      refine Plan.fin ?_
      by_cases hbig : M < N
      · have hbI : (M : Int) < (N : Int) := by omega
        have HN2 : Hid (NumSt false N (decV ((s.data.toList.drop p).take (q + 1)))) := by
          refine .inr ⟨rfl, ?_⟩
          rw [HV.out]
          rcases HNS.out with ⟨_, h⟩ | ⟨_, h⟩ <;> omega
        clear hbig
        go_wp2_with fail
        have HL6 : Hid (LAt (w5.setCell ⟨n, 2, none⟩ (.int .i64 ((k2 : Int) + 1))).drew n s (some ⟨b, off, none⟩) pq (k2 + 1)) := (HLA5.out.go (by push_cast; rfl)).k (by exact Keeps.K)
        have K6 : Hid (Keeps [n] w5 (w5.setCell ⟨n, 2, none⟩ (.int .i64 ((k2 : Int) + 1))).drew) := by exact Keeps.K
        refine ⟨⟨false, q + 1, N, k2 + 1, rfl, hN, Nat.lt_of_lt_of_le hsz5 K6.out.size, HPN.out, HR2.out, HN2.out, HL6.out, (K6.out.block _ (Nat.lt_trans HZ2 hsz5) (by simp; omega)).trans HB55.out, (K6.out.block _ hsz5 (by simp; omega)).trans HB56.out, K5.out.trans K6.out (fun _ _ h => h)⟩, ?_⟩
        rw [HL6.out.ix, HLA.out.ix]
        omega
      · have hbI : (N : Int) ≤ (M : Int) := by omega
        have HN2 : Hid (NumSt ok (N * 10 + d) (decV ((s.data.toList.drop p).take (q + 1)))) := by
          show NumSt _ _ _
          rw [HV.out]
          rcases HNS.out with ⟨h, h2⟩ | ⟨h, h2⟩
          · exact .inl ⟨h, by rw [h2]⟩
          · exact .inr ⟨h, by omega⟩
        have hN2 : N * 10 + d ≤ 9223372036854775807 := by omega
        have n0 : (0 : Int) ≤ (N : Int) := Int.natCast_nonneg _
        have n1 : (N : Int) * 10 + (d : Int) ≤ 9223372036854775807 := by omega
        clear hbig
        go_wp2_with fail
        obtain ⟨wA, hwA⟩ : ∃ wA, w5.setCell ⟨w2.heap.size, 2, none⟩ (.int .i64 ((N : Int) * 10 + (d : Int))) = wA := ⟨_, rfl⟩
        have KA : Hid (Keeps [w2.heap.size] w5 wA) := by rw [← hwA]; exact Keeps.K
        have HA6 : Hid (wA.heap[w2.heap.size]? = some (.cells #[.int .i64 1, .string ⟨#[]⟩, .int .i64 ((N * 10 + d : Nat) : Int), .int .i64 p] 93 (0, 0))) := by
          rw [← hwA]
          exact heap_setCell_same w5 w2.heap.size 2 _ _ _ HB56.out
        rw [hwA]
        have HLA6 : Hid (LAt wA n s (some ⟨b, off, none⟩) pq k2) := HLA5.out.far KA.out (fun b hb => by simp at hb; omega)
        have hszA : w2.heap.size < wA.heap.size := Nat.lt_of_lt_of_le hsz5 KA.out.size
        have HL6 : Hid (LAt (wA.setCell ⟨n, 2, none⟩ (.int .i64 ((k2 : Int) + 1))).drew n s (some ⟨b, off, none⟩) pq (k2 + 1)) := (HLA6.out.go (by push_cast; rfl)).k (by exact Keeps.K)
        have K6 : Hid (Keeps [n] wA (wA.setCell ⟨n, 2, none⟩ (.int .i64 ((k2 : Int) + 1))).drew) := by exact Keeps.K
        refine ⟨⟨ok, q + 1, N * 10 + d, k2 + 1, rfl, hN2, Nat.lt_of_lt_of_le hszA K6.out.size, HPN.out, HR2.out, HN2.out, HL6.out, (K6.out.block _ (Nat.lt_trans HZ2 hszA) (by simp; omega)).trans ((KA.out.block _ (Nat.lt_trans HZ2 hsz5) (by simp; omega)).trans HB55.out), (K6.out.block _ hszA (by simp; omega)).trans HA6.out, (K5.out.trans KA.out (fun b hb hb' => by simp at hb'; omega)).trans K6.out (fun _ _ h => h)⟩, ?_⟩
        rw [HL6.out.ix, HLA.out.ix]
        omega
    · have HRQ : Hid (R = q) := by
        have h1 := HRR.out
        have h0 : runL 2 2 (s.data.toList.drop (p + q)) = 0 := by
          by_cases hne : s.data.toList.drop (p + q) = []
          · rw [hne, runL_nil]
          · refine runL_out (fun h => hc2 ?_)
            unfold clsA
            rw [if_neg hne]
            omega
        rw [h0] at h1
        exact h1
      have HD2 := HD.out
      rw [HRQ.out] at HD2
      have HD2 := hid HD2
      obtain ⟨cl, hcl⟩ : ∃ cl, clsA (s.data.toList.drop (p + q)) = cl := ⟨_, rfl⟩
      rw [hcl] at hc2 ⊢
      have hcf : (cl == 2) = false := by simp; exact hc2
      obtain ⟨⟨z0, z1, z2, z3⟩, fz⟩ := blk4 HB55.out
      have hzz : w2.heap.size ≠ w.heap.size := by omega
      clear hcl hc2
      go_wp2_with fail
      refine bodyPost_ret (v := .tuple #[.agg #[.int .i64 1, .string ⟨#[]⟩, .int .i64 N, .int .i64 p], .bool ok]) (by simp [results, Tryz.results95, go_sem, z0, z1, z2, z3]) rfl ?_
      have KF : Keeps [w.heap.size] w5 ((((w5.setCell ⟨w.heap.size, 0, none⟩ (.int .i64 1)).setCell ⟨w.heap.size, 1, none⟩ (.string ⟨#[]⟩)).setCell ⟨w.heap.size, 2, none⟩ (.int .i64 N)).setCell ⟨w.heap.size, 3, none⟩ (.int .i64 p)) := by exact Keeps.K
      have HLF := HLA5.out.far KF (fun b hb => by simp at hb; omega)
      have KG := K5.out.trans KF (fun b hb hb' => by simp at hb'; omega)
      by_cases hv : decV ((s.data.toList.drop p).take q) ≤ 9223372036854775807
      · obtain ⟨rfl, hN3⟩ : ok = true ∧ N = decV ((s.data.toList.drop p).take q) := by
          rcases HNS.out with h | ⟨_, h⟩
          · exact h
          · omega
        have h1 := HD2.out
        rw [if_pos hv] at h1
        rw [hN3] at HLF KG ⊢
        exact TokPost.some_ h1 HPK.out HLF KG
      · obtain rfl : ok = false := by
          rcases HNS.out with ⟨_, h⟩ | ⟨h, _⟩
          · omega
          · exact h
        have h1 := HD2.out
        rw [if_neg hv] at h1
        exact TokPost.none_ h1 KG

end Go.Proofs.YtnjdepojmnniaaaGreatDoor

/- The document's lexer: a name. -/
namespace Go.Proofs.YtnjdepojmnniaaaGreatDoor
open Go Go.RowKit

set_option maxRecDepth 100000 in
set_option maxHeartbeats 4000000 in
theorem r6name_any (s : ByteArray) (n : Nat) (pa : Option Addr) (pq k p : Nat) (w : World) (H : LAt w n s pa pq k) (hp : PAt s.data.toList k p) (hk : k < (pieces s.data.toList).length) (hc : clsL (s.data.toList.drop p) = 1) (hs : s.size ≤ 400) :
    Calls Tryz.prog 96 #[.pointer (some ⟨n, 0, none⟩)] w (TokPost s n pa pq p w) := by
  have HH := hid H
  have HL : Hid (s.data.toList.length = s.size) := Array.length_toList
  obtain ⟨R, hR⟩ : ∃ R, runL 1 2 (s.data.toList.drop p) = R := ⟨_, rfl⟩
  have HD : Hid (oneD (s.data.toList.drop p) = if R ≤ 24 then some (⟨3, (s.data.toList.drop p).take R, 0, 0⟩, R) else none) := by
    show _ = _
    unfold oneD
    rw [if_neg (by rw [hc]; decide), if_pos hc, hR]
  have HR := hid hR
  have HP := hid hp
  have hm := hp.le.1
  clear hc hR hk hp H
  go_enter Tryz.func96, Tryz.ntmps96
  go_wp2_with fail
  refine (r6here_any s n pa pq k p _ (HH.out.k (by exact Keeps.K)) HP.out).mono ?_
  rintro e w2 ⟨rfl, hk⟩
  have K2 : Hid (Keeps [] w w2) := Keeps.trans (G := []) (by exact Keeps.K) hk (fun _ _ h => h)
  have HZ2 : w.heap.size < w2.heap.size := by have := hk.size; simp at this; omega
  have HB2 : Hid (w2.heap[w.heap.size]? = some (.cells #[.int .i64 0, .string ⟨#[]⟩, .int .i64 0, .int .i64 0] 93 (0, 0))) := (hk.block _ (by simp) (by simp)).trans (heap_alloc_new _ _)
  have HL2 : Hid (LAt w2 n s pa pq k) := HH.out.k K2.out
  have hnw : n < w.heap.size := HH.out.lt
  clear hk
  go_wp2_with fail
  go_loopw [] (fun wr => ∃ (q k2 : Nat), w2.heap.size < wr.heap.size ∧ Hid (PAt s.data.toList k2 (p + q) ∧ R = q + runL 1 2 (s.data.toList.drop (p + q)) ∧ LAt wr n s pa pq k2 ∧ wr.heap[w.heap.size]? = some (.cells #[.int .i64 0, .string ⟨#[]⟩, .int .i64 0, .int .i64 0] 93 (0, 0)) ∧ wr.heap[w2.heap.size]? = some (.cells #[.int .i64 3, .string ⟨#[]⟩, .int .i64 0, .int .i64 p] 93 (0, 0)) ∧ Keeps [n] w wr)) (fun wr => (pieces s.data.toList).length - ixAt wr n)
  case atStart =>
    refine ⟨0, k, by simp, HP.out, by rw [Nat.zero_add]; exact HR.out.symm, HL2.out.k (by exact Keeps.K), ?_, heap_alloc_new _ _, (K2.out.alloc _).mono (fun _ _ h => by cases h)⟩
    exact (((Keeps.refl [] w2).alloc _).block w.heap.size HZ2 (by simp)).trans HB2.out
  case round =>
    obtain ⟨q, k2, hsz, HW⟩ := hrel
    obtain ⟨a1, a2, a4, a5, a6, a7⟩ := HW.out
    have HPK := hid a1
    have HRR := hid a2
    have HLA := hid a4
    have HB5 := hid a5
    have HB6 := hid a6
    have HK := hid a7
    have hk2 := a1.le
    have hL := HL.out
    have hnn : n ≠ w2.heap.size := by omega
    have hzz : w2.heap.size ≠ w.heap.size := by omega
    obtain ⟨cl, hcl⟩ : ∃ cl, clsA (s.data.toList.drop (p + q)) = cl := ⟨_, rfl⟩
    have HC := hid (fun w1 (h1 : LAt w1 n s pa pq k2) => r6class_any s n pa pq k2 (p + q) w1 h1 HPK.out)
    rw [hcl] at HC
    have k0 : (0 : Int) ≤ (k2 : Int) := Int.natCast_nonneg _
    have k1 : (k2 : Int) ≤ 400 := by omega
    have HNX : Hid (cl = 1 ∨ cl = 2 → ∃ e, PAt s.data.toList (k2 + 1) (p + (q + e)) ∧ R = (q + e) + runL 1 2 (s.data.toList.drop (p + (q + e))) ∧ k2 < (pieces s.data.toList).length) := fun hcc => by
      have hkk : k2 < (pieces s.data.toList).length := by
        rcases Nat.lt_or_ge k2 (pieces s.data.toList).length with h | h
        · exact h
        · have := a1.end_ (by omega)
          rw [this, List.drop_of_length_le (Nat.le_refl _)] at hcl
          rw [show clsA [] = -1 from rfl] at hcl
          omega
      have hne := drop_ne (a1.lt hkk)
      have hcs : clsL (s.data.toList.drop (p + q)) = 1 ∨ clsL (s.data.toList.drop (p + q)) = 2 := by
        unfold clsA at hcl
        rw [if_neg hne] at hcl
        omega
      obtain ⟨_, hpn⟩ := a1.next hkk
      refine ⟨wid (s.data.toList.drop (p + q)), by rw [← Nat.add_assoc]; exact hpn, ?_, hkk⟩
      have h1 := a2
      rw [runL_in hne hcs, List.drop_drop] at h1
      rw [← Nat.add_assoc p]
      omega
    have HEX : Hid (¬ (cl = 1 ∨ cl = 2) → R = q) := fun hcc => by
      have h0 : runL 1 2 (s.data.toList.drop (p + q)) = 0 := by
        by_cases hne : s.data.toList.drop (p + q) = []
        · rw [hne, runL_nil]
        · refine runL_out (fun h => hcc ?_)
          unfold clsA at hcl
          rw [if_neg hne] at hcl
          omega
      rw [h0] at a2
      exact a2
    have HEND : ∀ w5, Keeps [] wr w5 → (Keeps [n] w w5 ∧ LAt w5 n s pa pq k2 ∧ w2.heap.size < w5.heap.size) ∧ w5.heap[w.heap.size]? = some (.cells #[.int .i64 0, .string ⟨#[]⟩, .int .i64 0, .int .i64 0] 93 (0, 0)) ∧ w5.heap[w2.heap.size]? = some (.cells #[.int .i64 3, .string ⟨#[]⟩, .int .i64 0, .int .i64 p] 93 (0, 0)) := fun w5 g =>
      ⟨⟨a7.trans g (fun _ _ h => by cases h), a4.k g, Nat.lt_of_lt_of_le hsz g.size⟩, (g.block _ (Nat.lt_trans HZ2 hsz) (by simp)).trans a5, (g.block _ hsz (by simp)).trans a6⟩
    have HEND := hid HEND
    clear a1 a2 a4 a5 a6 a7 HW hcl hL
    go_wp2_with fail
    refine (HC.out _ (HLA.out.k (by exact Keeps.K))).mono ?_
    rintro e w5 ⟨rfl, hk⟩
    have K05 : Hid (Keeps [] wr w5) := Keeps.trans (G := []) (by exact Keeps.K) hk (fun _ _ h => h)
    clear hk
    by_cases h1 : cl = 1
    · subst h1
      obtain ⟨e, hpn, hrn, hkk⟩ := HNX.out (.inl rfl)
      have HPN := hid hpn
      have HRN := hid hrn
      obtain ⟨⟨K5, hla5, hsz5⟩, hb1, hb2⟩ := HEND.out _ K05.out
      obtain ⟨⟨c0, c1, c2⟩, f2⟩ := hla5.cells
      have HLA5 := hid hla5
      have HB1 := hid hb1
      have HB2' := hid hb2
      have HK5 := hid K5
      clear hpn hrn hla5 hb1 hb2 K5
      go_wp2_with fail
      have HL6 : Hid (LAt (w5.setCell ⟨n, 2, none⟩ (.int .i64 ((k2 : Int) + 1))) n s pa pq (k2 + 1)) := (HLA5.out.go (by push_cast; rfl))
      have K6 : Hid (Keeps [n] w5 (w5.setCell ⟨n, 2, none⟩ (.int .i64 ((k2 : Int) + 1)))) := by exact Keeps.K
      refine ⟨⟨q + e, k2 + 1, Nat.lt_of_lt_of_le hsz5 K6.out.size, HPN.out, HRN.out, HL6.out, (K6.out.block _ (Nat.lt_trans HZ2 hsz5) (by simp; omega)).trans HB1.out, (K6.out.block _ hsz5 (by simp; omega)).trans HB2'.out, HK5.out.trans K6.out (fun _ _ h => h)⟩, ?_⟩
      rw [HL6.out.ix, HLA.out.ix]
      omega
    · have hc1 : (cl == 1) = false := by simp; exact h1
      go_wp2_with fail
      refine (HC.out _ (HLA.out.k K05.out)).mono ?_
      rintro e w6 ⟨rfl, hk⟩
      have K06 : Hid (Keeps [] wr w6) := K05.out.trans hk (fun _ _ h => h)
      clear hk
      obtain ⟨⟨K5, hla5, hsz5⟩, hb1, hb2⟩ := HEND.out _ K06.out
      obtain ⟨⟨c0, c1, c2⟩, f2⟩ := hla5.cells
      have HLA5 := hid hla5
      have HB1 := hid hb1
      have HB2' := hid hb2
      have HK5 := hid K5
      clear hla5 hb1 hb2 K5
      by_cases h2 : cl = 2
      · subst h2
        obtain ⟨e, hpn, hrn, hkk⟩ := HNX.out (.inr rfl)
        have HPN := hid hpn
        have HRN := hid hrn
        clear hpn hrn
        go_wp2_with fail
        have HL6 : Hid (LAt (w6.setCell ⟨n, 2, none⟩ (.int .i64 ((k2 : Int) + 1))) n s pa pq (k2 + 1)) := (HLA5.out.go (by push_cast; rfl))
        have K6 : Hid (Keeps [n] w6 (w6.setCell ⟨n, 2, none⟩ (.int .i64 ((k2 : Int) + 1)))) := by exact Keeps.K
        refine ⟨⟨q + e, k2 + 1, Nat.lt_of_lt_of_le hsz5 K6.out.size, HPN.out, HRN.out, HL6.out, (K6.out.block _ (Nat.lt_trans HZ2 hsz5) (by simp; omega)).trans HB1.out, (K6.out.block _ hsz5 (by simp; omega)).trans HB2'.out, HK5.out.trans K6.out (fun _ _ h => h)⟩, ?_⟩
        rw [HL6.out.ix, HLA.out.ix]
        omega
      · have hc2 : (cl == 2) = false := by simp; exact h2
        have HRQ := hid (HEX.out (fun h => h.elim h1 h2))
        have HD2 := HD.out
        rw [HRQ.out] at HD2
        have HD2 := hid HD2
        clear h1 h2
        obtain ⟨⟨e0, e1, e2, e3⟩, f1⟩ := blk4 HB2'.out
        obtain ⟨⟨z0, z1, z2, z3⟩, fz⟩ := blk4 HB1.out
        obtain ⟨m, hmm⟩ : ∃ m, s.extract p (p + q) = m := ⟨_, rfl⟩
        have HM : Hid (m = str ((s.data.toList.drop p).take q)) := by
          have := extract_str s p q
          rw [hmm] at this
          exact this
        have hq1 : (p : Int) ≤ (p : Int) + (q : Int) := by omega
        have hL := HL.out
        have hq2 : (p : Int) + (q : Int) ≤ (s.size : Int) := by omega
        have p0 : (0 : Int) ≤ (p : Int) := Int.natCast_nonneg _
        have hmz : m.size = q := by rw [← hmm, ByteArray.size_extract]; omega
        clear hL
        go_wp2_with fail
        obtain ⟨⟨d0, _, _⟩, _⟩ := HLA5.out.cells
        refine Plan.wp_region_plan (fun wx => wx.cell? ⟨n, 0, none⟩ = some (.string s) ∧ wx.cell? ⟨w2.heap.size, 3, none⟩ = some (.int .i64 p)) 11 [(true, 0), (true, 1), (true, 2), (true, 3), (true, 4), (true, 5), (true, 6), (false, 7), (true, 8), (true, 9), (false, 10)] (by kernel_rfl) (by as_aux_lemma => kernel_rfl) (by kernel_rfl) (fun _ _ _ _ _ h => h) ?_ (fun hS => ?_)
        (· go_simp)
        simp only [Plan.pick, List.append_eq, List.cons_append, List.nil_append, Plan.g1, Plan.g2, Option.getD_some, List.drop_succ_cons, List.drop_zero]
        iterate 7 (first | refine Plan.tA ?_ | refine Plan.tY ?_ | refine Plan.pN ?_ | refine Plan.pU ?_ | fail)
        refine Plan.step ?_
        go_wp2_with fail
        refine (r6here_any s n pa pq k2 (p + q) _ (HLA5.out.k (by exact Keeps.K)) HPK.out).mono ?_
        rintro e w7 ⟨rfl, hk⟩
        have K07 : Hid (Keeps [] w6 w7) := Keeps.trans (G := []) (by exact Keeps.K) hk (fun _ _ h => h)
        clear hk
        obtain ⟨⟨K7, hla7, hsz7⟩, hb1, hb2⟩ := HEND.out _ (K06.out.trans K07.out (fun _ _ h => h))
        obtain ⟨⟨c0', c1', c2'⟩, f2'⟩ := hla7.cells
        have HLA7 := hid hla7
        have HB71 := hid hb1
        have HB72 := hid hb2
        have HK7 := hid K7
        clear hla7 hb1 hb2 K7
        obtain ⟨⟨e0', e1', e2', e3'⟩, f1'⟩ := blk4 HB72.out
        obtain ⟨⟨z0', z1', z2', z3'⟩, fz'⟩ := blk4 HB71.out
        clear e0 e1 e2 e3 f1 z0 z1 z2 z3 fz c0 c1 c2 f2
        go_wp2_with fail
        refine ⟨?_, ?_⟩
        (· go_simp)
        iterate 2 (first | refine Plan.tA ?_ | refine Plan.tY ?_ | refine Plan.pN ?_ | refine Plan.pU ?_ | fail)
        rw [show s.extract p ((p : Int) + (q : Int)).toNat = m by rw [show ((p : Int) + (q : Int)).toNat = p + q by omega]; exact hmm]
        refine Plan.step ?_
        go_wp2_with fail
        refine ⟨?_, ?_⟩
        (· go_simp)
        refine Plan.fin ?_
        go_wp2_with fail
        obtain ⟨wB, hwB⟩ : ∃ wB, w7.setCell ⟨w2.heap.size, 1, none⟩ (.string m) = wB := ⟨_, rfl⟩
        have KB : Hid (Keeps [w2.heap.size] w7 wB) := by rw [← hwB]; exact Keeps.K
        have HRB : Hid (wB.heap[w2.heap.size]? = some (.cells #[.int .i64 3, .string m, .int .i64 0, .int .i64 p] 93 (0, 0))) := by
          rw [← hwB]
          exact heap_setCell_same w7 w2.heap.size 1 _ _ _ HB72.out
        have HRZ : Hid (wB.heap[w.heap.size]? = some (.cells #[.int .i64 0, .string ⟨#[]⟩, .int .i64 0, .int .i64 0] 93 (0, 0))) := (KB.out.block _ (Nat.lt_trans HZ2 hsz7) (by simp; omega)).trans HB71.out
        have HLB : Hid (LAt wB n s pa pq k2) := HLA7.out.far KB.out (fun b hb => by simp at hb; omega)
        have HKB : Hid (Keeps [n] w wB) := HK7.out.trans KB.out (fun b hb hb' => by simp at hb'; omega)
        obtain ⟨⟨g0, g1, g2, g3⟩, fg⟩ := blk4 HRB.out
        obtain ⟨⟨y0, y1, y2, y3⟩, fy⟩ := blk4 HRZ.out
        rw [hwB]
        clear hwB e0' e1' e2' e3' f1' z0' z1' z2' z3' fz' c0' c1' c2' f2'
        refine Plan.wp_region_plan (fun wx => (wx.cell? ⟨w2.heap.size, 0, none⟩ = some (.int .i64 3) ∧ wx.cell? ⟨w2.heap.size, 1, none⟩ = some (.string m)) ∧ wx.cell? ⟨w2.heap.size, 2, none⟩ = some (.int .i64 0) ∧ wx.cell? ⟨w2.heap.size, 3, none⟩ = some (.int .i64 p)) 7 [(true, 0), (true, 1), (true, 2), (true, 3), (true, 4), (false, 5), (true, 6)] (by kernel_rfl) (by as_aux_lemma => kernel_rfl) (by kernel_rfl) (fun _ _ _ _ _ h => h) ?_ (fun hS => ?_)
        (· go_simp)
        simp only [Plan.pick, List.append_eq, List.cons_append, List.nil_append, Plan.g1, Plan.g2, Option.getD_some, List.drop_succ_cons, List.drop_zero]
        iterate 5 (first | refine Plan.tA ?_ | refine Plan.tY ?_ | refine Plan.pN ?_ | refine Plan.pU ?_ | fail)
        refine Plan.step ?_
        go_wp2_with fail
        refine ⟨?_, ?_⟩
        (· go_simp)
        iterate 1 (first | refine Plan.tA ?_ | refine Plan.tY ?_ | refine Plan.pN ?_ | refine Plan.pU ?_ | fail)
        refine Plan.fin ?_
        go_wp2_with fail
        refine bodyPost_ret (v := .tuple #[.agg #[.int .i64 3, .string m, .int .i64 0, .int .i64 p], .bool (decide ((q : Int) ≤ 24))]) (by simp [results, Tryz.results96, go_sem, y0, y1, y2, y3]) rfl ?_
        have KF : Keeps [w.heap.size] wB ((((wB.setCell ⟨w.heap.size, 0, none⟩ (.int .i64 3)).setCell ⟨w.heap.size, 1, none⟩ (.string m)).setCell ⟨w.heap.size, 2, none⟩ (.int .i64 0)).setCell ⟨w.heap.size, 3, none⟩ (.int .i64 p)).drew := by exact Keeps.K
        have HLF := HLB.out.far KF (fun b hb => by simp at hb; omega)
        have KG := HKB.out.trans KF (fun b hb hb' => by simp at hb'; omega)
        have h1 := HD2.out
        by_cases hv : q ≤ 24
        · rw [if_pos hv] at h1
          rw [decide_eq_true (show (q : Int) ≤ 24 by omega)]
          rw [HM.out] at HLF KG ⊢
          exact TokPost.some_ h1 HPK.out HLF KG
        · rw [if_neg hv] at h1
          rw [decide_eq_false (show ¬ (q : Int) ≤ 24 by omega)]
          exact TokPost.none_ h1 KG

end Go.Proofs.YtnjdepojmnniaaaGreatDoor
