/- Entry, From, Snapshot; Draw; what a core says. -/
import Derived.Test.YtpppoajnbhipeaaCoreB
namespace Go.Proofs.Ytpppoajnbhipeaa
open Go Go.RowKit

/-- A block known whole: its cells; none is frozen. -/
theorem blk3 {w : World} {b : Nat} {x0 x1 x2 : Value} {t : TypeId} (h : w.heap[b]? = some (.cells #[x0, x1, x2] t (0, 0))) :
    (w.cell? ⟨b, 0, none⟩ = some x0 ∧ w.cell? ⟨b, 1, none⟩ = some x1 ∧ w.cell? ⟨b, 2, none⟩ = some x2) ∧ ∀ i, w.frozen? ⟨b, i, none⟩ = false :=
  ⟨⟨cell_of_block h 0, cell_of_block h 1, cell_of_block h 2⟩, fun i => frozen_of_row w b i _ _ h⟩
theorem blk10 {w : World} {b : Nat} {x0 x1 x2 x3 x4 x5 x6 x7 x8 x9 : Value} {t : TypeId} (h : w.heap[b]? = some (.cells #[x0, x1, x2, x3, x4, x5, x6, x7, x8, x9] t (0, 0))) :
    (w.cell? ⟨b, 0, none⟩ = some x0 ∧ w.cell? ⟨b, 1, none⟩ = some x1 ∧ w.cell? ⟨b, 2, none⟩ = some x2 ∧ w.cell? ⟨b, 3, none⟩ = some x3 ∧ w.cell? ⟨b, 4, none⟩ = some x4 ∧ w.cell? ⟨b, 5, none⟩ = some x5 ∧ w.cell? ⟨b, 6, none⟩ = some x6 ∧ w.cell? ⟨b, 7, none⟩ = some x7 ∧ w.cell? ⟨b, 8, none⟩ = some x8 ∧ w.cell? ⟨b, 9, none⟩ = some x9) ∧ ∀ i, w.frozen? ⟨b, i, none⟩ = false :=
  ⟨⟨cell_of_block h 0, cell_of_block h 1, cell_of_block h 2, cell_of_block h 3, cell_of_block h 4, cell_of_block h 5, cell_of_block h 6, cell_of_block h 7, cell_of_block h 8, cell_of_block h 9⟩, fun i => frozen_of_row w b i _ _ h⟩

section
variable (w : World) (B n : Nat) (c : CoreD) (lv sv : Value) (h : CoreAt w B n c lv sv)
include h

set_option maxHeartbeats 400000 in
theorem cSnapshot_any : Calls Try.prog 36 #[.pointer (some ⟨n, 0, none⟩)] w (Copied c.snap w) := by
  have h1 : w.cell? ⟨n, 18, none⟩ = some sv := h.blk.cell 18
  have HB : Hid (Reads w 1 sv c.snap.length (u8s c.snap)) := h.snap.1
  have hb := h.ok.snap
  clear h
  go_enter Try.func36, Try.ntmps36
  go_wp2_with fail
  refine (listB_any sv c.snap _ HB.out (by omega)).mono ?_
  rintro e w1 ⟨a, k, rfl, o1, k1⟩
  have O1 := hid o1
  have K1 := hid k1
  clear o1 k1
  go_wp2_with fail
  go_ret
  exact ⟨a, k, rfl, O1.out, K1.out⟩

omit h in
theorem entD_some {c : CoreD} {i : Int} {e : Ent} (h : entD c i = some e) : ∃ j : Nat, i = c.base + 1 + j ∧ c.l[j]? = some e ∧ i ≤ lastD c := by
  unfold entD at h
  split at h
  · cases h
  · refine ⟨(i - c.base - 1).toNat, by omega, h, by omega⟩

set_option maxHeartbeats 800000 in
theorem cEntry_no (i : Int) (hn : entD c i = none) : Calls Try.prog 42 #[.pointer (some ⟨n, 0, none⟩), .int .i64 i] w fun e w' => e = .returned (.tuple #[entV ⟨0, false, []⟩ (.slice none 0 0), .bool false]) ∧ Keeps [] w w' := by
  have h1 : w.cell? ⟨n, 15, none⟩ = some (.int .i64 c.base) := h.blk.cell 15
  have hlt := h.blk.lt
  by_cases hb : i ≤ c.base
  · clear h hn
    go_enter Try.func42, Try.ntmps42
    go_wp2
    refine bodyPost_ret (v := .tuple #[entV ⟨0, false, []⟩ (.slice none 0 0), .bool false]) (by simp [results, Try.results42, go_sem, entV]) rfl ⟨rfl, ?_⟩
    (repeat (first | (with_reducible exact Keeps.refl _ _) | (with_reducible assumption) | ((with_reducible refine Keeps.setCell ?_ ?_ _); rotate_left 1; (· first | (refine .inl ?_; simp; done) | (refine .inr ?_; first | exact Nat.le_refl _ | (simp; done) | (simp; omega) | omega))) | (with_reducible refine Keeps.alloc ?_ _) | (with_reducible refine Keeps.drewN ?_ _) | (with_reducible refine Keeps.drew ?_)))
  · have HL : Hid (∀ o, Calls Try.prog 25 #[.pointer (some ⟨n, 0, none⟩)] (w.alloc o) fun e w' => e = .returned (.int .i64 (lastD c)) ∧ ∃ k, w' = (w.alloc o).drewN k) := fun o => cLast_any _ B n c lv sv (h.k ((Keeps.refl [] w).alloc o))
    have hgt : lastD c < i := by
      unfold entD at hn
      split at hn
      · omega
      · have hl := List.getElem?_eq_none_iff.1 hn
        unfold lastD
        omega
    clear h hn
    go_enter Try.func42, Try.ntmps42
    go_wp2_with (go_at_call 25; go_must (refine (HL.out _).mono ?_; rintro e w' ⟨rfl, k, rfl⟩))
    refine bodyPost_ret (v := .tuple #[entV ⟨0, false, []⟩ (.slice none 0 0), .bool false]) (by simp [results, Try.results42, go_sem, entV]) rfl ⟨rfl, ?_⟩
    (repeat (first | (with_reducible exact Keeps.refl _ _) | (with_reducible assumption) | ((with_reducible refine Keeps.setCell ?_ ?_ _); rotate_left 1; (· first | (refine .inl ?_; simp; done) | (refine .inr ?_; first | exact Nat.le_refl _ | (simp; done) | (simp; omega) | omega))) | (with_reducible refine Keeps.alloc ?_ _) | (with_reducible refine Keeps.drewN ?_ _) | (with_reducible refine Keeps.drew ?_)))

/-- What Entry, asked for an entry that is there, leaves. -/
def EntryYes (e : Ent) (w : World) (x : Ending) (w' : World) : Prop := ∃ a k, x = .returned (.tuple #[entV e (.slice a e.data.length k), .bool true]) ∧ BytesAt w' (fun b => w.heap.size ≤ b) (.slice a e.data.length k) e.data ∧ Keeps [] w w'

omit h in
theorem EntryYes.mk {e : Ent} {w w' w1 : World} {x : Ending} {a : Option Addr} {k : Nat} (hx : x = .returned (.tuple #[entV e (.slice a e.data.length k), .bool true])) (hB : w.heap.size ≤ w1.heap.size) (ho : w'.ownsRow w1.heap.size 5 1 (.slice a e.data.length k) e.data.length (u8s e.data)) (hk : Keeps [] w w') : EntryYes e w x w' :=
  ⟨a, k, hx, BytesAt.ofOwn ho rfl (fun b h1 _ => Nat.le_trans hB h1), hk⟩

set_option maxHeartbeats 800000 in
theorem cEntry_yes (i : Int) (e : Ent) (hs : entD c i = some e) : Calls Try.prog 42 #[.pointer (some ⟨n, 0, none⟩), .int .i64 i] w (EntryYes e w) := by
  have h1 : w.cell? ⟨n, 15, none⟩ = some (.int .i64 c.base) := h.blk.cell 15
  have hlt := h.blk.lt
  have HL : Hid (∀ o, Calls Try.prog 25 #[.pointer (some ⟨n, 0, none⟩)] (w.alloc o) fun e w' => e = .returned (.int .i64 (lastD c)) ∧ ∃ k, w' = (w.alloc o).drewN k) := fun o => cLast_any _ B n c lv sv (h.k ((Keeps.refl [] w).alloc o))
  obtain ⟨j, hj, he, hi⟩ := entD_some hs
  have hjl : j < c.l.length := (List.getElem?_eq_some_iff.1 he).1
  have o1 := h.ok.base.1
  have o2 := h.ok.last
  have o3 := h.ok.len
  have o4 := h.ok.data e (List.mem_of_getElem? he)
  obtain ⟨g, k, v, hf, _, _, e0, e1, e2, eb⟩ := h.own.ent he
  have EB : Hid (Reads w 1 v e.data.length (u8s e.data)) := eb.1
  have h3 : w.cell? ⟨n, 17, none⟩ = some (.slice (some ⟨g, 0, none⟩) c.l.length k) := (h.blk.cell 17).trans (by rw [hf]; rfl)
  have hb : ¬ i ≤ c.base := by omega
  have hgl : g < w.heap.size := World.block_lt_of_cell? _ _ e0
  have w1 : IntKind.i64.wrap (i - c.base) = i - c.base := IntWalk.i64_in _ (by omega)
  have w2 : IntKind.i64.wrap (i - c.base - 1) = (j : Int) := by rw [IntWalk.i64_in _ (by omega)]; omega
  have j0 : (0 : Int) ≤ (j : Int) := Int.natCast_nonneg _
  have j1 : (j : Int) < (c.l.length : Int) := by omega
  clear h hf he hs hj hjl eb
  go_enter Try.func42, Try.ntmps42
  go_wp2_with (go_at_call 25; go_must (refine (HL.out _).mono ?_; rintro e w' ⟨rfl, kd, rfl⟩))
  refine Plan.wp_region_plan (fun w' => w'.cell? ⟨n, 15, none⟩ = some (.int .i64 c.base) ∧ w'.cell? ⟨n, 17, none⟩ = some (.slice (some ⟨g, 0, none⟩) c.l.length k) ∧ w'.cell? ⟨g, j * 3, none⟩ = some (.int .i64 e.term) ∧ w'.cell? ⟨g, j * 3 + 1, none⟩ = some (.bool e.cmd) ∧ w'.cell? ⟨g, j * 3 + 2, none⟩ = some v) 11 [(true, 0), (true, 1), (true, 2), (true, 3), (true, 4), (true, 5), (true, 6), (true, 7), (true, 8), (true, 9), (true, 10)] (by kernel_rfl) (by as_aux_lemma => kernel_rfl) (by kernel_rfl) (fun _ _ _ _ _ h => h) ?_ (fun hS => ?_)
  (· go_simp)
  simp only [Plan.pick, List.append_eq, List.cons_append, List.nil_append, List.getElem?_cons_zero, List.getElem?_cons_succ, Option.getD_some, List.drop_succ_cons, List.drop_zero]
  repeat (first | (refine Plan.take (v := ?_) (a' := ?_) (by rfl) ?_ ?_ ?_; rotate_left 2; (· (intro w' hS'; (try dsimp only at hS'); go_simp; try with_reducible rfl)); (· (simp only [Act.put, List.setIfInBounds_toArray, List.set_cons_zero, List.set_cons_succ]; try with_reducible rfl))) | (refine Plan.pass (a' := ?_) (by rfl) ?_ ?_; rotate_left 1; (· (simp only [Act.put, List.setIfInBounds_toArray, List.set_cons_zero, List.set_cons_succ]; try with_reducible rfl))))
  refine Plan.fin ?_
  go_wp2_with fail
  refine (own_any e v _ (EB.out.keeps (((Keeps.refl [] w).alloc _).drewN _).drew (fun _ _ h => by cases h)) (by omega)).mono ?_
  rintro x w3 ⟨a, q, rfl, ho, hk⟩
  unfold entV
  obtain ⟨⟨c0, c1, c2⟩, f3⟩ := blk3 ((hk.block w.heap.size (by simp) (by simp)).trans (heap_alloc_new w _))
  have HO := hid ho
  have HK := hid hk
  clear ho hk
  go_wp2_with fail
  refine bodyPost_ret (v := .tuple #[entV e (.slice a e.data.length q), .bool true]) (by simp [results, Try.results42, go_sem, entV, c0, c1, c2]) rfl ?_
  have K3 : Keeps [] w w3 := ((((Keeps.refl [] w).alloc _).drewN _).drew).trans HK.out (fun _ _ h => h)
  have Z := HK.out.size
  refine EntryYes.mk (w1 := (((w.alloc _).drewN kd).drew)) rfl (by simp) (ownsRow_keeps (F := [w.heap.size]) HO.out ?_ (fun b hb hb' => ?_)) ?_
  (· (repeat (first | (with_reducible exact Keeps.refl _ _) | (with_reducible assumption) | ((with_reducible refine Keeps.setCell ?_ ?_ _); rotate_left 1; (· first | (refine .inl ?_; simp; done) | (refine .inr ?_; first | exact Nat.le_refl _ | (simp; done) | (simp; omega) | omega))) | (with_reducible refine Keeps.alloc ?_ _) | (with_reducible refine Keeps.drewN ?_ _) | (with_reducible refine Keeps.drew ?_))))
  (· have := (ownB_ge HO.out b hb).1; simp at this hb'; omega)
  (repeat (first | (with_reducible exact Keeps.refl _ _) | (with_reducible assumption) | ((with_reducible refine Keeps.setCell ?_ ?_ _); rotate_left 1; (· first | (refine .inl ?_; simp; done) | (refine .inr ?_; first | exact Nat.le_refl _ | (simp; done) | (simp; omega) | omega))) | (with_reducible refine Keeps.alloc ?_ _) | (with_reducible refine Keeps.drewN ?_ _) | (with_reducible refine Keeps.drew ?_)))
end

end Go.Proofs.Ytpppoajnbhipeaa
