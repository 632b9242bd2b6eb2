/- Joined of EvA, EvB. -/
import Derived.Test.YtgjiahilbmeaeaaGreatDoorR17
import Derived.Test.YtgjiahilbmeaeaaGreatDoorR02
import Derived.Test.YtgjiahilbmeaeaaGreatDoorR06
import Derived.Test.YtgjiahilbmeaeaaGreatDoorR00
set_option maxRecDepth 100000
set_option maxHeartbeats 4000000
set_option linter.unusedSimpArgs false
set_option linter.unusedVariables false
/- What expressions come «to», where inputs are blank: plain; what a name has. -/
namespace Go.Proofs.YtgjiahilbmeaeaaGreatDoor
open Go Go.RowKit
def namedQ (s : ByteArray) (names : List ByteArray) (vals : List ValD) : Option ValD :=
 match atName s names with
 | none => none
 | some i => vals[i]?.map boxD
mutual
def evalQ : ExprD → List ByteArray → List ValD → Option ValD
 | .mk o n s ks, names, vals =>
   if o = 1 then some (intD n)
   else if o = 4 then namedQ s names vals
   else if o = 22 then (namedQ (ks.getD 0 noExpr).s names vals).map fun v => truD (decide (v.kind ≠ 0 ∧ v.kind ≠ 4))
   else lazyQ o ks names vals
def lazyQ : Int → List ExprD → List ByteArray → List ValD → Option ValD
 | o, a :: r, names, vals =>
   if 7 ≤ o ∧ o ≤ 11 then
    match evalQ a names vals with
    | none => none
    | some x => if (needD x [1]).2 = false then some (needD x [1]).1 else divQ o r names vals
   else if o = 18 then
    match evalQ a names vals with
    | none => none
    | some x => if (needD x [2]).2 = false then some (needD x [2]).1 else if x.n = 1 then none else elseQ r names vals
   else if o = 20 ∨ o = 21 ∨ o = 23 then
    match evalQ a names vals with
    | none => none
    | some x => if (needD x [3]).2 = false then some (needD x [3]).1 else none
   else if o = 16 ∨ o = 17 then
    match evalQ a names vals with
    | none => none
    | some x => if (needD x [2]).2 = false then some (needD x [2]).1 else none
   else if o = 12 ∨ o = 14 then
    match evalQ a names vals with
    | none => none
    | some x => if (needD x (if o = 14 then [1, 3] else [1, 3, 2])).2 = false then some (needD x (if o = 14 then [1, 3] else [1, 3, 2])).1 else if o = 14 then cmpQ x.kind r names vals else none
   else none
 | _, [], _, _ => none
def divQ : Int → List ExprD → List ByteArray → List ValD → Option ValD
 | o, [b], names, vals =>
   match evalQ b names vals with
   | none => none
   | some y => if (needD y [1]).2 = false then some (needD y [1]).1 else if o = 10 ∧ y.n = 0 then some (badD 2) else none
 | _, _, _, _ => none
def cmpQ : Int → List ExprD → List ByteArray → List ValD → Option ValD
 | k, [b], names, vals =>
   match evalQ b names vals with
   | none => none
   | some y => if (needD y [k]).2 = false then some (needD y [k]).1 else none
 | _, _, _, _ => none
def elseQ : List ExprD → List ByteArray → List ValD → Option ValD
 | [_, c], names, vals => evalQ c names vals
 | _, _, _ => none
end
def valC (v : ValD) : List Value := [.int .i64 v.kind, .int .i64 v.n, .string v.s]
def valL : Lay ValD where
 size := 3
 pos := by decide
 at_ _ _ cs v := cs = valC v
 len := fun h => by rw [h]; rfl
 one := fun h => by
  rw [h]
  intro u hu
  simp [valC] at hu
  rcases hu with rfl | rfl | rfl <;> rfl
 keep := fun h _ _ => h
 mono := fun h _ => h
def WithAt (w : World) (wb : Nat) (names : List ByteArray) (vals : List ValD) : Prop :=
 ∃ a1 c1 a2 c2, w.heap[wb]? = some (.cells #[.slice a1 names.length c1, .slice a2 vals.length c2] 353 (0, 0)) ∧ Reads w 1 (.slice a1 names.length c1) names.length (names.map Value.string) ∧ ListAt valL w (fun _ => True) (.slice a2 vals.length c2) vals ∧ (∀ v ∈ vals, checkD v = true ∧ v.s.size ≤ 1000000) ∧ names.length ≤ 1000 ∧ vals.length ≤ 1000
theorem WithAt.k {w w' : World} {wb : Nat} {names : List ByteArray} {vals : List ValD} (h : WithAt w wb names vals) (k : Keeps [] w w') : WithAt w' wb names vals := by
 obtain ⟨a1, c1, a2, c2, h1, h2, h3, h4⟩ := h
 exact ⟨a1, c1, a2, c2, (k.block wb (Array.getElem?_eq_some_iff.1 h1).1 (by simp)).trans h1, h2.keeps k (fun _ _ h => by cases h), h3.k k, h4⟩
theorem check_val0 : checkD val0 = true := by kernel_rfl
theorem boxV_val0 : boxV val0 = .nilIface := by
 unfold boxV
 rw [if_pos check_val0]
 rfl
theorem boxV_box (v : ValD) : boxV (boxD v) = boxV v := by
 unfold boxD
 by_cases h : checkD v = true ∧ 1 ≤ v.kind ∧ v.kind ≤ 4
 ·rw [if_pos h]
 ·rw [if_neg h, boxV_val0]
  unfold boxV
  by_cases hc : checkD v = true
  ·have hk : ¬ (1 ≤ v.kind ∧ v.kind ≤ 4) := fun hk => h ⟨hc, hk⟩
   have q1 : ¬ v.kind = 1 := by omega
   have q2 : ¬ v.kind = 2 := by omega
   have q3 : ¬ v.kind = 3 := by omega
   have q4 : ¬ v.kind = 4 := by omega
   rw [if_pos hc, if_neg q1, if_neg q2, if_neg q3, if_neg q4]
  ·rw [if_neg hc]
theorem boxD_ok (v : ValD) : checkD (boxD v) = true := by
 unfold boxD
 split
 ·rename_i h; exact h.1
 ·exact check_val0
theorem evNamed_ok (s : ByteArray) (names : List ByteArray) (vals : List ValD) (v : ValD) (wb : Nat) (w : World) (hT : Tabs w) (h : WithAt w wb names vals) (hv : namedQ s names vals = some v) :
 Calls Tryz.prog 279 #[.pointer (some ⟨wb, 0, none⟩), .string s] w fun e w' => e = .returned (boxV v) ∧ Keeps [] w w' := by
 obtain ⟨i, u, hi, hu, rfl⟩ : ∃ i u, atName s names = some i ∧ vals[i]? = some u ∧ boxD u = v := by
  unfold namedQ at hv
  split at hv
  ·cases hv
  ·rename_i i hi
   cases hu : vals[i]? with
   | none => rw [hu] at hv; cases hv
   | some u => rw [hu] at hv; simp at hv; exact ⟨i, u, hi, hu, hv⟩
 rw [boxV_box]
 obtain ⟨a1, c1, a2, c2, hb, hr1, hr2, hvs, hl1, hl2⟩ := h
 obtain ⟨x, hx1, hx2, hx3⟩ := atName_some hi
 obtain ⟨n, hn⟩ : ∃ n, names.length = n := ⟨_, rfl⟩
 obtain ⟨m, hm⟩ : ∃ m, vals.length = m := ⟨_, rfl⟩
 rw [hn] at hb hr1 hl1
 rw [hm] at hb hr2 hl2
 have hin : i < n := by rw [← hn]; exact (List.getElem?_eq_some_iff.1 hx1).1
 have him : i < m := by rw [← hm]; exact (List.getElem?_eq_some_iff.1 hu).1
 obtain ⟨g1, o1, rfl, hc1⟩ : ∃ g o, a1 = some ⟨g, o, none⟩ ∧ ∀ j y, names[j]? = some y → w.cell? ⟨g, o + j, none⟩ = some (.string y) := by
  rcases hr1.2 with ⟨h0, _⟩ | ⟨_, g, off, c', e, _, _, _, hx⟩
  ·omega
  ·simp only [Value.slice.injEq] at e
   exact ⟨g, off, e.1, fun j y hy => hx j _ (by rw [List.getElem?_map, hy]; rfl)⟩
 obtain ⟨g2, o2, c', hv2, hnc, _, _, _⟩ := hr2.addr (by intro e; rw [e] at hu; simp at hu)
 simp only [Value.slice.injEq] at hv2
 obtain ⟨rfl, -, rfl⟩ := hv2
 obtain ⟨cs, hcs, hcell⟩ := hr2.get hu
 have hcs : cs = valC u := hcs
 subst hcs
 have y0 : w.cell? ⟨g2, o2 + i * 3, none⟩ = some (.int .i64 u.kind) := by simpa [valL] using hcell 0 _ rfl
 have y1 : w.cell? ⟨g2, o2 + i * 3 + 1, none⟩ = some (.int .i64 u.n) := by simpa [valL] using hcell 1 _ rfl
 have y2 : w.cell? ⟨g2, o2 + i * 3 + 2, none⟩ = some (.string u.s) := by simpa [valL] using hcell 2 _ rfl
 have z0 : w.cell? ⟨wb, 0, none⟩ = some (.slice (some ⟨g1, o1, none⟩) n c1) := cell_of_block hb 0
 have z1 : w.cell? ⟨wb, 1, none⟩ = some (.slice (some ⟨g2, o2, none⟩) m c2) := cell_of_block hb 1
 have HBX := hid (fun wx (k : Keeps [] w wx) => vbox_any u wx (hT.k k) (by have := (hvs u (List.mem_of_getElem? hu)).2; omega))
 have H1 := hid hc1
 have HX := hid (And.intro hx1 (And.intro hx2 hx3))
 have HL := hid hn
 have HY := hid (And.intro y0 (And.intro y1 (And.intro y2 (And.intro z0 z1))))
 unfold valV at HBX
 clear hr1 hr2 hi hu hc1 hx1 hx2 hx3 hn hm hb hvs hcell hv hT y0 y1 y2 z1
 go_enter Tryz.func279, Tryz.ntmps279
 go_wp2_with fail
 go_loopw [12] (fun iv wr => ∃ k : Nat, iv = .int .i64 (k : Int) ∧ k ≤ i ∧ Hid (Keeps [] w wr)) (fun iv _ => i + 1 - (intOf iv).toNat)
 case atStart => exact ⟨0, rfl, Nat.zero_le _, by show Keeps _ _ _; exact Keeps.K⟩
 case round =>
  obtain ⟨k, rfl, hk, hW⟩ := hrel
  have HW := hid hW.out
  clear hW
  have j0 : (0 : Int) ≤ (k : Int) := Int.natCast_nonneg _
  have i1 : (k : Int) < (n : Int) := by omega
  have z0 := HW.out.cellSome HY.out.2.2.2.1 (by simp)
  have z1 := HW.out.cellSome HY.out.2.2.2.2 (by simp)
  by_cases hki : k = i
  ·subst hki
   have hcell := HW.out.cellSome (H1.out k x HX.out.1) (by simp)
   have y0 := HW.out.cellSome HY.out.1 (by simp)
   have y1 := HW.out.cellSome HY.out.2.1 (by simp)
   have y2 := HW.out.cellSome HY.out.2.2.1 (by simp)
   have hq : (x.toList == s.toList) = true := by rw [HX.out.2.1]; simp
   have i2 : (k : Int) < (m : Int) := by omega
   go_wp2_with fail
   refine (HBX.out _ HW.out).mono ?_
   rintro _ w2 ⟨rfl, hk2⟩
   have K2 := hid (HW.out.trans hk2 (fun _ _ h => h))
   clear hk2
   go_wp2_with fail
   go_ret
   exact ⟨rfl, K2.out⟩
  ·obtain ⟨y, hy⟩ : ∃ y, names[k]? = some y := ⟨_, List.getElem?_eq_getElem (by have := HL.out; omega)⟩
   have hcell := HW.out.cellSome (H1.out k y hy) (by simp)
   have hq := HX.out.2.2 k y (by omega) hy
   have hki2 : k < i := by omega
   clear hy hki
   go_wp2_with fail
   exact ⟨⟨k + 1, rfl, by omega, HW.out⟩, by simp [intOf]; omega⟩
theorem box_forms {v : ValD} (hc : checkD v = true) : (v = val0 ∧ boxV v = .nilIface) ∨ (v = ⟨1, v.n, ⟨#[]⟩⟩ ∧ boxV v = .iface 2 (.int .i64 v.n)) ∨ (v = ⟨2, 1, ⟨#[]⟩⟩ ∧ boxV v = .iface 4 (.bool true)) ∨ (v = ⟨2, 0, ⟨#[]⟩⟩ ∧ boxV v = .iface 4 (.bool false)) ∨ (v = ⟨3, 0, v.s⟩ ∧ textOk v.s = true ∧ boxV v = .iface 9 (.string v.s)) ∨ (v = ⟨4, v.n, ⟨#[]⟩⟩ ∧ boxV v = .iface 61 (.agg #[.int .i64 4, .int .i64 v.n, .string ⟨#[]⟩])) := by
 rcases checkD_cases hc with ⟨h1, h2, h3⟩ | ⟨h1, h3⟩ | ⟨h1, h2 | h2, h3⟩ | ⟨h1, h2, h3⟩ | ⟨h1, h3⟩
 ·obtain ⟨k, n, s⟩ := v
  dsimp only at h1 h2 h3
  subst h1 h2 h3
  exact .inl ⟨rfl, boxV_val0⟩
 ·obtain ⟨k, n, s⟩ := v
  dsimp only at h1 h3
  subst h1 h3
  refine .inr (.inl ⟨rfl, ?_⟩)
  unfold boxV
  rw [if_pos hc]
  rfl
 ·obtain ⟨k, n, s⟩ := v
  dsimp only at h1 h2 h3
  subst h1 h2 h3
  refine .inr (.inr (.inr (.inl ⟨rfl, ?_⟩)))
  unfold boxV
  rw [if_pos hc]
  rfl
 ·obtain ⟨k, n, s⟩ := v
  dsimp only at h1 h2 h3
  subst h1 h2 h3
  refine .inr (.inr (.inl ⟨rfl, ?_⟩))
  unfold boxV
  rw [if_pos hc]
  rfl
 ·obtain ⟨k, n, s⟩ := v
  dsimp only at h1 h2 h3
  subst h1 h2
  refine .inr (.inr (.inr (.inr (.inl ⟨rfl, ?_, ?_⟩))))
  ·have := hc
   simpa [checkD] using this
  ·unfold boxV
   rw [if_pos hc]
   rfl
 ·obtain ⟨k, n, s⟩ := v
  dsimp only at h1 h3
  subst h1 h3
  refine .inr (.inr (.inr (.inr (.inr ⟨rfl, ?_⟩))))
  unfold boxV
  rw [if_pos hc]
  rfl
theorem unbox_box {v : ValD} (hc : checkD v = true) (w : World) (hT : Tabs w) (hs : v.s.size ≤ 1000000) : Calls Tryz.prog 255 #[boxV v] w (UnboxPost v true w) := by
 rcases box_forms hc with ⟨h1, h2⟩ | ⟨h1, h2⟩ | ⟨h1, h2⟩ | ⟨h1, h2⟩ | ⟨h1, h3, h2⟩ | ⟨h1, h2⟩
 ·rw [h2, h1]; exact unbox_nil w
 ·rw [h2, h1]; exact unbox_int v.n w
 ·rw [h2, h1]; exact unbox_true w
 ·rw [h2, h1]; exact unbox_false w
 ·rw [h2]
  have := unbox_text v.s w hT (by omega) h3
  rw [h1]
  exact this
 ·rw [h2]
  have := unbox_val v.n ⟨#[]⟩ w hT (by decide) (by rw [← h1]; exact hc)
  rw [h1]
  exact this
theorem evBad_ok (n : Int) (w : World) : Calls Tryz.prog 306 #[.int .i64 n] w fun e w' => e = .returned (.iface 61 (.agg #[.int .i64 4, .int .i64 n, .string ⟨#[]⟩])) ∧ Keeps [] w w' := by
 go_enter Tryz.func306, Tryz.ntmps306
 go_wp2_with fail
 go_ret
 exact ⟨rfl, by exact Keeps.K⟩
def needV (x : Value) (K : Int) (kinds : List Int) : Value := if kinds.contains K then .tuple #[x, .bool true] else .tuple #[.iface 61 (.agg #[.int .i64 4, .int .i64 3, .string ⟨#[]⟩]), .bool false]
theorem needV_yes {x : Value} {K : Int} {kinds : List Int} (h : kinds.contains K = true) : needV x K kinds = .tuple #[x, .bool true] := if_pos h
theorem needV_no {x : Value} {K : Int} {kinds : List Int} (h : kinds.contains K = false) : needV x K kinds = .tuple #[.iface 61 (.agg #[.int .i64 4, .int .i64 3, .string ⟨#[]⟩]), .bool false] := if_neg (by rw [h]; decide)
theorem evNeed_no (x : Value) (K : Int) (kinds : List Int) (n3 : Nat) (a3 : Option Addr) (c3 wb : Nat) (o nn : Int) (s : ByteArray) (a : Option Addr) (m c : Nat) (w : World)
 (ta : ∀ w, (Instr.typeAssert x 20 61 true).run Tryz.prog w = .ok (.tuple #[.agg #[.int .i64 0, .int .i64 0, .string ⟨#[]⟩], .bool false]) w)
 (hK : ∀ wx, Keeps [] w wx → Calls Tryz.prog 311 #[x] wx fun e w' => e = .returned (.int .i64 K) ∧ Keeps [] wx w')
 (hcall : ∀ wx, Keeps [] w wx → Calls Tryz.prog 256 #[.pointer (some ⟨wb, 0, none⟩), .agg #[.int .i64 o, .int .i64 nn, .string s, .slice a m c]] wx fun e w' => e = .returned x ∧ Keeps [] wx w')
 (hn : kinds.length = n3) (hk : Reads w 1 (.slice a3 n3 c3) n3 (i64s kinds)) (h3 : n3 ≤ 3) :
 Calls Tryz.prog 301 #[.pointer (some ⟨wb, 0, none⟩), .agg #[.int .i64 o, .int .i64 nn, .string s, .slice a m c], .slice a3 n3 c3] w fun e w' => e = .returned (needV x K kinds) ∧ Keeps [] w w' := by
 have HC := hid hcall
 have HK := hid hK
 have HR := hid hk
 have HN := hid hn
 clear hcall hK hk hn
 go_enter Tryz.func301, Tryz.ntmps301
 go_wp2_with fail
 refine (HC.out _ (by exact Keeps.K)).mono ?_
 rintro _ w1 ⟨rfl, hk1⟩
 have K1 : Hid (Keeps [] w w1) := Keeps.trans (F := []) (G := []) (by exact Keeps.K) hk1 (fun _ _ h => h)
 clear hk1
 go_wp2_with fail
 refine (HK.out _ (K1.out.trans (G := []) (by exact Keeps.K) (fun _ _ h => h))).mono ?_
 rintro _ w2 ⟨rfl, hk2⟩
 have K2 : Hid (Keeps [] w w2) := (K1.out.trans (G := []) (by exact Keeps.K) (fun _ _ h => h)).trans hk2 (fun _ _ h => h)
 clear hk2
 have n0 : (0 : Int) ≤ (n3 : Int) := Int.natCast_nonneg _
 go_wp2_with fail
 go_loopw [29] (fun jv wr => ∃ j : Nat, jv = .int .i64 (j : Int) ∧ j ≤ n3 ∧ Hid ((∀ k, k < j → kinds[k]? ≠ some K) ∧ Keeps [] w wr)) (fun jv _ => n3 - (intOf jv).toNat)
 case atStart => exact ⟨0, rfl, Nat.zero_le _, fun k hk => absurd hk (Nat.not_lt_zero _), K2.out.trans (G := []) (by exact Keeps.K) (fun _ _ h => h)⟩
 case round =>
  obtain ⟨j, rfl, hj, hW⟩ := hrel
  have HW := hid hW.out
  clear hW
  have j0 : (0 : Int) ≤ (j : Int) := Int.natCast_nonneg _
  by_cases hlt : j < n3
  ·have i1 : (j : Int) < (n3 : Int) := by omega
   obtain ⟨y, hy⟩ : ∃ y, kinds[j]? = some y := ⟨_, List.getElem?_eq_getElem (by rw [HN.out]; exact hlt)⟩
   obtain ⟨g, off, c', hv, hx⟩ : ∃ g off c', (Value.slice a3 n3 c3) = .slice (some ⟨g, off, none⟩) n3 c' ∧ wr.cell? ⟨g, off + j, none⟩ = some (.int .i64 y) := by
    rcases (HR.out.keeps HW.out.2 (fun _ _ h => by cases h)).2 with ⟨h0, _⟩ | ⟨_, g, off, c', e, _, _, _, hx⟩
    ·omega
    ·exact ⟨g, off, c', e, hx j _ (by unfold i64s; rw [List.getElem?_map, hy]; rfl)⟩
   simp only [Value.slice.injEq] at hv
   obtain ⟨rfl, -, rfl⟩ := hv
   by_cases hyk : K = y
   ·subst hyk
    have HM : Hid (kinds.contains K = true) := by show _ = _; simpa using List.mem_of_getElem? hy
    clear hy
    go_wp2_with fail
    go_ret2
    exact ⟨by rw [needV_yes HM.out]; rfl, HW.out.2⟩
   ·have HY := hid hy
    have HYK := hid hyk
    have hq : (K == y) = false := by simpa using hyk
    have HLT := hid hlt
    clear hy hyk hlt
    go_wp2_with fail
    refine ⟨⟨j + 1, rfl, HLT.out, fun k hk => ?_, HW.out.2⟩, by have := HLT.out; simp [intOf]; omega⟩
    by_cases e : k = j
    ·subst e
     rw [HY.out]
     intro h
     simp at h
     exact HYK.out h.symm
    ·exact HW.out.1 k (by omega)
  ·obtain rfl : j = n3 := by omega
   have HM : Hid (kinds.contains K = false) := by
    show _ = _
    rw [Bool.eq_false_iff]
    intro h
    obtain ⟨k, hk⟩ := List.getElem?_of_mem (List.contains_iff_mem.1 h)
    exact HW.out.1 k (by have := (List.getElem?_eq_some_iff.1 hk).1; rw [HN.out] at this; exact this) hk
   have HBD := hid (evBad_ok 3 wr)
   go_wp2_with fail
   refine HBD.out.mono ?_
   rintro _ w4 ⟨rfl, hk4⟩
   have K4 := hid (HW.out.2.trans hk4 (fun _ _ h => h))
   clear hk4
   go_wp2_with fail
   go_ret2
   exact ⟨by rw [needV_no HM.out]; rfl, K4.out⟩
theorem evNeed_bad (n : Int) (n3 : Nat) (a3 : Option Addr) (c3 wb : Nat) (o nn : Int) (s : ByteArray) (a : Option Addr) (m c : Nat) (w : World)
 (hcall : ∀ wx, Keeps [] w wx → Calls Tryz.prog 256 #[.pointer (some ⟨wb, 0, none⟩), .agg #[.int .i64 o, .int .i64 nn, .string s, .slice a m c]] wx fun e w' => e = .returned (.iface 61 (.agg #[.int .i64 4, .int .i64 n, .string ⟨#[]⟩])) ∧ Keeps [] wx w') :
 Calls Tryz.prog 301 #[.pointer (some ⟨wb, 0, none⟩), .agg #[.int .i64 o, .int .i64 nn, .string s, .slice a m c], .slice a3 n3 c3] w fun e w' => e = .returned (.tuple #[.iface 61 (.agg #[.int .i64 4, .int .i64 n, .string ⟨#[]⟩]), .bool false]) ∧ Keeps [] w w' := by
 have HC := hid hcall
 have ta : ∀ w, (Instr.typeAssert (.iface 61 (.agg #[.int .i64 4, .int .i64 n, .string ⟨#[]⟩])) 20 61 true).run Tryz.prog w = .ok (.tuple #[.agg #[.int .i64 4, .int .i64 n, .string ⟨#[]⟩], .bool true]) w := fun _ => by kernel_rfl
 clear hcall
 go_enter Tryz.func301, Tryz.ntmps301
 go_wp2_with fail
 refine (HC.out _ (by exact Keeps.K)).mono ?_
 rintro _ w1 ⟨rfl, hk1⟩
 have K1 : Hid (Keeps [] w w1) := Keeps.trans (F := []) (G := []) (by exact Keeps.K) hk1 (fun _ _ h => h)
 clear hk1
 go_wp2_with fail
 go_ret2
 exact ⟨rfl, K1.out.trans (G := []) (by exact Keeps.K) (fun _ _ h => h)⟩
theorem evNeed_ok (v : ValD) (kinds : List Int) (n3 : Nat) (a3 : Option Addr) (c3 wb : Nat) (o nn : Int) (s : ByteArray) (a : Option Addr) (m c : Nat) (w : World) (hT : Tabs w) (hc : checkD v = true) (hs : v.s.size ≤ 1000000)
 (hcall : ∀ wx, Keeps [] w wx → Calls Tryz.prog 256 #[.pointer (some ⟨wb, 0, none⟩), .agg #[.int .i64 o, .int .i64 nn, .string s, .slice a m c]] wx fun e w' => e = .returned (boxV v) ∧ Keeps [] wx w')
 (hn : kinds.length = n3) (hk : Reads w 1 (.slice a3 n3 c3) n3 (i64s kinds)) (h3 : n3 ≤ 3) :
 Calls Tryz.prog 301 #[.pointer (some ⟨wb, 0, none⟩), .agg #[.int .i64 o, .int .i64 nn, .string s, .slice a m c], .slice a3 n3 c3] w fun e w' => e = .returned (.tuple #[boxV (needD v kinds).1, .bool (needD v kinds).2]) ∧ Keeps [] w w' := by
 have hK : ∀ wx, Keeps [] w wx → Calls Tryz.prog 311 #[boxV v] wx fun e w' => e = .returned (.int .i64 v.kind) ∧ Keeps [] wx w' := fun wx k => kind_yes _ v wx (unbox_box hc wx (hT.k k) hs)
 have hbad : boxV (badD 3) = .iface 61 (.agg #[.int .i64 4, .int .i64 3, .string ⟨#[]⟩]) := by
  unfold boxV
  rw [if_pos (by kernel_rfl)]
  rfl
 have fin : ∀ (hv4 : v.kind ≠ 4), Calls Tryz.prog 301 #[.pointer (some ⟨wb, 0, none⟩), .agg #[.int .i64 o, .int .i64 nn, .string s, .slice a m c], .slice a3 n3 c3] w (fun e w' => e = .returned (needV (boxV v) v.kind kinds) ∧ Keeps [] w w') → Calls Tryz.prog 301 #[.pointer (some ⟨wb, 0, none⟩), .agg #[.int .i64 o, .int .i64 nn, .string s, .slice a m c], .slice a3 n3 c3] w fun e w' => e = .returned (.tuple #[boxV (needD v kinds).1, .bool (needD v kinds).2]) ∧ Keeps [] w w' := fun hv4 h => by
  refine h.mono fun e w' hh => ⟨?_, hh.2⟩
  rw [hh.1]
  unfold needD
  rw [if_neg hv4]
  cases hcn : kinds.contains v.kind
  ·rw [needV_no hcn, ← hbad]
   rfl
  ·rw [needV_yes hcn]
   rfl
 rcases box_forms hc with ⟨h1, h2⟩ | ⟨h1, h2⟩ | ⟨h1, h2⟩ | ⟨h1, h2⟩ | ⟨h1, h4, h2⟩ | ⟨h1, h2⟩
 ·exact fin (by rw [h1]; decide) (evNeed_no (boxV v) v.kind kinds n3 a3 c3 wb o nn s a m c w (fun w => by rw [h2]; kernel_rfl) hK hcall hn hk h3)
 ·exact fin (by rw [h1]; show (1 : Int) ≠ 4; decide) (evNeed_no (boxV v) v.kind kinds n3 a3 c3 wb o nn s a m c w (fun w => by rw [h2]; kernel_rfl) hK hcall hn hk h3)
 ·exact fin (by rw [h1]; decide) (evNeed_no (boxV v) v.kind kinds n3 a3 c3 wb o nn s a m c w (fun w => by rw [h2]; kernel_rfl) hK hcall hn hk h3)
 ·exact fin (by rw [h1]; decide) (evNeed_no (boxV v) v.kind kinds n3 a3 c3 wb o nn s a m c w (fun w => by rw [h2]; kernel_rfl) hK hcall hn hk h3)
 ·exact fin (by rw [h1]; show (3 : Int) ≠ 4; decide) (evNeed_no (boxV v) v.kind kinds n3 a3 c3 wb o nn s a m c w (fun w => by rw [h2]; kernel_rfl) hK hcall hn hk h3)
 ·rw [h2] at hcall
  have h4 : v.kind = 4 := by rw [h1]
  have := evNeed_bad v.n n3 a3 c3 wb o nn s a m c w hcall
  have hd : needD v kinds = (v, false) := by unfold needD; rw [if_pos h4]
  rw [hd, h2]
  exact this
end Go.Proofs.YtgjiahilbmeaeaaGreatDoor