/- Small words on worlds, footprints and slices that every walk of this seat uses. No program is named here. -/
import Derived.WalkKit
import Derived.WalkSpells
import Derived.Deep.AppendLies
import Derived.Maps.AppendAt
import Derived.Deep.QuietTactic
import Derived.BigQuiet
import Derived.Deep.RegionHeld3
import Derived.Deep.DrawnRows
import Derived.Deep.DeepMust
import Derived.Lib.SlBytesConst
namespace Go.Proofs.YtdpbjdkkaekebaaDoor
open Go Go.RowKit

/-- A fact laid behind 'Hid'. -/
theorem hid {p : Prop} (h : p) : Hid p := h

/-- Outside the blocks F the world w' is as w was; new blocks may have come. -/
structure Keeps (F : List Nat) (w w' : World) : Prop where
  os : w'.os = w.os
  tape : w'.tape = w.tape
  output : w'.output = w.output
  size : w.heap.size ≤ w'.heap.size
  block : ∀ k, k < w.heap.size → k ∉ F → w'.heap[k]? = w.heap[k]?

namespace Keeps
variable {F G : List Nat} {w w' w'' : World}
theorem refl (F : List Nat) (w : World) : Keeps F w w := ⟨rfl, rfl, rfl, Nat.le_refl _, fun _ _ _ => rfl⟩
theorem mono (h : Keeps F w w') (s : ∀ k, k < w.heap.size → k ∈ F → k ∈ G) : Keeps G w w' :=
  ⟨h.os, h.tape, h.output, h.size, fun k hk hn => h.block k hk (fun hf => hn (s k hk hf))⟩
/-- Two steps; what the second one touches is old and in F, or new. -/
theorem trans (h : Keeps F w w') (g : Keeps G w' w'') (s : ∀ k, k < w.heap.size → k ∈ G → k ∈ F) : Keeps F w w'' :=
  ⟨g.os.trans h.os, g.tape.trans h.tape, g.output.trans h.output, Nat.le_trans h.size g.size,
    fun k hk hn => (g.block k (Nat.lt_of_lt_of_le hk h.size) (fun hg => hn (s k hk hg))).trans (h.block k hk hn)⟩
theorem ofGrown {row : Option Nat} (h : w.grownBy w' row) (s : ∀ k, row = some k → k ∈ F) : Keeps F w w' :=
  ⟨h.os, h.tape, h.output, h.size, fun k hk hn => h.block k hk (fun e => hn (s k e.symm))⟩
theorem ofBelow {B : Nat} (h : Below B w w') (s : ∀ k, k < w.heap.size → B ≤ k → k ∈ F) : Keeps F w w' :=
  ⟨h.os, h.tape, h.output, h.size, fun k hk hn => h.block k (by rcases Nat.lt_or_ge k B with l | l; exact l; exact absurd (s k hk l) hn)⟩
theorem below (h : Keeps F w w') {B : Nat} (hB : B ≤ w.heap.size) (s : ∀ k, k ∈ F → B ≤ k) : Below B w w' :=
  ⟨h.os, h.tape, h.output, h.size, fun k hk => h.block k (by omega) (fun hf => by have := s k hf; omega)⟩
theorem drew (h : Keeps F w w') : Keeps F w w'.drew := ⟨h.os, h.tape, h.output, h.size, h.block⟩
theorem drewN (h : Keeps F w w') (n : Nat) : Keeps F w (w'.drewN n) := ⟨h.os, h.tape, h.output, h.size, h.block⟩
theorem alloc (h : Keeps F w w') (o : Obj) : Keeps F w (w'.alloc o) :=
  h.trans (G := []) ⟨rfl, rfl, rfl, by simp, fun k hk _ => Below.heap_alloc w' o k hk⟩ (fun _ _ h => by cases h)
theorem setCell (h : Keeps F w w') {p : Addr} (hp : p.block ∈ F ∨ w.heap.size ≤ p.block) (u : Value) : Keeps F w (w'.setCell p u) :=
  h.trans (G := [p.block]) ⟨rfl, rfl, rfl, by simp, fun k _ hn => heap_setCell_other w' p k u (fun e => hn (by simp [e]))⟩
    (fun k hk hm => by simp at hm; subst hm; rcases hp with hp | hp; exact hp; omega)
/-! Short names, for what is printed often. -/
theorem kR (F : List Nat) (w : World) : Keeps F w w := refl F w
theorem kA (h : Keeps F w w') (o : Obj) : Keeps F w (w'.alloc o) := h.alloc o
theorem kN (h : Keeps F w w') (n : Nat) : Keeps F w (w'.drewN n) := h.drewN n
theorem kD (h : Keeps F w w') : Keeps F w w'.drew := h.drew
theorem kS (h : Keeps F w w') {p : Addr} (hp : p.block ∈ F ∨ w.heap.size ≤ p.block) (u : Value) : Keeps F w (w'.setCell p u) := h.setCell hp u
/-- A chain of allocations, draws and stores; it ends at a hypothesis or at w. -/
theorem K (h : Keeps F w w' := by
    repeat (first
      | (with_reducible first | exact Keeps.kR _ _ | assumption | refine Keeps.kA ?_ _ | refine Keeps.kN ?_ _ | refine Keeps.kD ?_)
      | (with_reducible refine Keeps.kS ?_ ?_ _; rotate_left 1; · first | (refine .inl ?_; simp; done) | (refine .inr ?_; first | exact Nat.le_refl _ | (simp; done) | (simp; omega) | omega)))) : Keeps F w w' := h
/-- Behind a law that ends in 'grownBy', the world ahead of it being w' but for draws. -/
theorem grown {w1 w2 : World} {row : Option Nat} (h : Keeps F w w') (g : w1.grownBy w2 row) (e1 : w1.heap = w'.heap) (e2 : w1.os = w'.os) (e3 : w1.tape = w'.tape) (e4 : w1.output = w'.output)
    (s : ∀ k, row = some k → k ∈ F ∨ w.heap.size ≤ k) : Keeps F w w2 :=
  ⟨g.os.trans (e2.trans h.os), g.tape.trans (e3.trans h.tape), g.output.trans (e4.trans h.output), Nat.le_trans h.size (by rw [← e1]; exact g.size),
    fun k hk hn => (g.block k (by rw [e1]; exact Nat.lt_of_lt_of_le hk h.size) (fun e => by rcases s k e.symm with h1 | h1; exact hn h1; omega)).trans (by rw [e1]; exact h.block k hk hn)⟩
theorem cell (h : Keeps F w w') {a : Addr} (ha : a.block < w.heap.size) (hn : a.block ∉ F) : w'.cell? a = w.cell? a := World.cell?_of_block (w := w) (h.block _ ha hn)
theorem cellSome (h : Keeps F w w') {a : Addr} {v : Value} (ha : w.cell? a = some v) (hn : a.block ∉ F) : w'.cell? a = some v := (h.cell (World.block_lt_of_cell? _ _ ha) hn).trans ha
theorem frozen (h : Keeps F w w') {a : Addr} (ha : a.block < w.heap.size) (hn : a.block ∉ F) : w'.frozen? a = w.frozen? a := World.frozen?_of_block (w := w) (h.block _ ha hn)
end Keeps

theorem le_maxLen {n : Nat} (h : n ≤ 140737488355328) : n ≤ maxLen := by unfold maxLen; omega

theorem addr_add (b o j : Nat) : (⟨b, o, none⟩ : Addr).add j = ⟨b, o + j, none⟩ := by unfold Addr.add; split <;> simp_all

/-- A slice value that reads as n elements of so many cells each: all its cells are xs. Nothing is asked of an empty one's address. -/
def Reads (w : World) (size : Nat) (v : Value) (n : Nat) (xs : List Value) : Prop :=
  xs.length = n * size ∧ ((n = 0 ∧ ∃ a c, v = .slice a 0 c) ∨ (0 < n ∧ ∃ b off c, v = .slice (some ⟨b, off, none⟩) n c ∧ n ≤ c ∧ c ≤ maxLen ∧ b < w.heap.size ∧ ∀ j u, xs[j]? = some u → w.cell? ⟨b, off + j, none⟩ = some u))

/-- The blocks that a slice leads to. -/
def ownB (v : Value) : List Nat := v.ownBlock.toList

theorem mem_ownB {v : Value} {k : Nat} : k ∈ ownB v ↔ v.ownBlock = some k := by unfold ownB; cases v.ownBlock <;> simp [eq_comm]

theorem Reads.keeps {F : List Nat} {w w' : World} {size n : Nat} {v : Value} {xs : List Value} (h : Reads w size v n xs) (k : Keeps F w w') (hn : ∀ b, b ∈ ownB v → b ∉ F) : Reads w' size v n xs := by
  obtain ⟨hl, h | ⟨hp, b, off, c, rfl, hnc, hc, hb, hx⟩⟩ := h
  · exact ⟨hl, .inl h⟩
  · refine ⟨hl, .inr ⟨hp, b, off, c, rfl, hnc, hc, Nat.lt_of_lt_of_le hb k.size, fun j u hu => ?_⟩⟩
    exact k.cellSome (hx j u hu) (hn b (by simp [mem_ownB, Value.ownBlock]))

theorem Reads.below {B : Nat} {w w' : World} {size n : Nat} {v : Value} {xs : List Value} (h : Reads w size v n xs) (k : Below B w w') (hn : ∀ b, b ∈ ownB v → b < B) : Reads w' size v n xs := by
  obtain ⟨hl, h | ⟨hp, b, off, c, rfl, hnc, hc, hb, hx⟩⟩ := h
  · exact ⟨hl, .inl h⟩
  · refine ⟨hl, .inr ⟨hp, b, off, c, rfl, hnc, hc, Nat.lt_of_lt_of_le hb k.size, fun j u hu => ?_⟩⟩
    exact (k.cell (p := ⟨b, off + j, none⟩) (hn b (by simp [mem_ownB, Value.ownBlock]))).trans (hx j u hu)

/-- What the call owns, read. -/
theorem Reads.ofOwn {w : World} {base e size n : Nat} {v : Value} {xs : List Value} (h : w.ownsRow base e size v n xs) : Reads w size v n xs := by
  obtain ⟨hl, ⟨rfl, rfl⟩ | ⟨g, cap, cur, rfl, hb, hg, hnc, hcm, hcs, htake⟩⟩ := h
  · exact ⟨hl, .inl ⟨rfl, none, 0, rfl⟩⟩
  · rcases Nat.eq_zero_or_pos n with rfl | hp
    · exact ⟨hl, .inl ⟨rfl, _, _, rfl⟩⟩
    · refine ⟨hl, .inr ⟨hp, g, 0, cap, rfl, hnc, hcm, (Array.getElem?_eq_some_iff.1 hg).1, fun j u hu => ?_⟩⟩
      rw [Nat.zero_add, cell_of_row w g j cur e (0, 0) hg]
      rw [← htake, List.getElem?_take] at hu
      split at hu
      · simpa using hu
      · cases hu

theorem ownsRow_keeps {F : List Nat} {w w' : World} {base e size n : Nat} {v : Value} {xs : List Value} (h : w.ownsRow base e size v n xs) (k : Keeps F w w') (hn : ∀ b, b ∈ ownB v → b ∉ F) : w'.ownsRow base e size v n xs := by
  refine ⟨h.1, ?_⟩
  rcases h.2 with hx | ⟨g, cap, cur, rfl, hb, hg, rest⟩
  · exact .inl hx
  · refine .inr ⟨g, cap, cur, rfl, hb, ?_, rest⟩
    rw [k.block g (Array.getElem?_eq_some_iff.1 hg).1 (hn g (by simp [mem_ownB, Value.ownBlock]))]
    exact hg

theorem ownsRow_base {w : World} {base base' e size n : Nat} {v : Value} {xs : List Value} (h : w.ownsRow base e size v n xs) (hb : base' ≤ base) : w.ownsRow base' e size v n xs := by
  refine ⟨h.1, ?_⟩
  rcases h.2 with hx | ⟨g, cap, cur, rfl, hb', rest⟩
  · exact .inl hx
  · exact .inr ⟨g, cap, cur, rfl, Nat.le_trans hb hb', rest⟩

theorem len_form {w : World} {base e size n : Nat} {v : Value} {xs : List Value} (h : w.ownsRow base e size v n xs) : ∃ a c, v = .slice a n c := by
  rcases h.2 with ⟨rfl, rfl⟩ | ⟨g, cap, cur, rfl, _⟩
  · exact ⟨_, _, rfl⟩
  · exact ⟨_, _, rfl⟩

theorem cell_of_block {w : World} {b : Nat} {cs : Array Value} {t : TypeId} {fr : Nat × Nat} (h : w.heap[b]? = some (.cells cs t fr)) (j : Nat) : w.cell? ⟨b, j, none⟩ = cs[j]? := cell_of_row w b j cs t fr h

/-- From an own row whose base is raised: 'all its blocks lie at or above'. -/
theorem ownB_ge {w : World} {base e size n : Nat} {v : Value} {xs : List Value} (h : w.ownsRow base e size v n xs) : ∀ b, b ∈ ownB v → base ≤ b ∧ b < w.heap.size := by
  intro b hb
  exact h.lt b (mem_ownB.1 hb)

section
variable {P : Program} (w : World)
/-- append(nil, src...): a copy. -/
theorem run_append_copy (t ty e : TypeId) (i : TypeInfo) (z : Value) (size bytes : Nat) (ht : P.underlying t = some (.slice e)) (hi : P.info? e = some i) (hz : i.zero = some z)
    (hsize : i.size = size) (hby : i.bytes = bytes) (hzs : z.cells.size = size) (hsz : 0 < size)
    (v : Value) (n : Nat) (xs : List Value) (hr : Reads w size v n xs) (h1 : ∀ u ∈ xs, u.oneCell' = true) (hbytes : n * bytes ≤ 140737488355328) (h63 : n ≤ maxLen) :
    ∃ v' w', (Builtin.append_ #[t, t] ty #[.slice none 0 0, v]).run P w = .ok v' w' ∧ w'.ownsRow w.heap.size e size v' n xs ∧ w.grownBy w' none := by
  obtain ⟨hl, ⟨rfl, a, c, rfl⟩ | ⟨hp, b, off, c, rfl, hnc, hc, hb, hx⟩⟩ := hr
  · obtain rfl : xs = [] := List.eq_nil_of_length_eq_zero (by simpa using hl)
    refine ⟨.slice none 0 0, w, ?_, World.ownsRow_nil w _ e size, ⟨rfl, rfl, rfl, Nat.le_refl _, fun _ _ _ => rfl⟩⟩
    cases a <;> simp [Builtin.append_, run_underlying ht, sizeOf, typeInfo, hi, Builtin.lenOf, Builtin.firstCells, loadCells, loadCellsFrom]
  · obtain ⟨v', w', h2, h3, h4, _⟩ := run_append_own_at (P := P) w w.heap.size t ty e i z size bytes ht hi hz hsize hby hzs hsz (.slice none 0 0) 0 [] (World.ownsRow_nil _ _ _ _)
      ⟨b, off, none⟩ n c xs hl (fun j u hu => by rw [show (⟨b, off, none⟩ : Addr).add j = ⟨b, off + j, none⟩ by unfold Addr.add; split <;> simp_all]; exact hx j u hu) h1 (by omega) (by simpa using hbytes) (Nat.le_refl _)
    rw [Nat.zero_add, List.nil_append] at h3
    exact ⟨v', w', h2, h3, h4⟩

theorem wpList_append_copy {ops : Array Oper} {rest : List Oper} {o : Oper} {a : Act} {Q : Exit → Act → World → Prop} (hgd : o.guard = none) (x : Operand) (t : TypeId)
    (ho : o.op = .call { callee := .builtin .append, args := #[.const (.slice none 0 0), x], argTypes := #[t, t] })
    (e : TypeId) (i : TypeInfo) (z : Value) (size bytes : Nat) (ht : P.underlying t = some (.slice e)) (hi : P.info? e = some i) (hz : i.zero = some z)
    (hsize : i.size = size) (hby : i.bytes = bytes) (hzs : z.cells.size = size) (hsz : 0 < size)
    (v : Value) (n : Nat) (xs : List Value) (hx : a.eval x = v) (hr : Reads w size v n xs) (h1 : ∀ u ∈ xs, u.oneCell' = true) (hbytes : n * bytes ≤ 140737488355328) (h63 : n ≤ maxLen)
    (h : ∀ v' w', w'.ownsRow w.heap.size e size v' n xs → w.grownBy w' none → wpList P ops Q rest (a.put o.dst v') w') : wpList P ops Q (o :: rest) a w := by
  refine wpList_plain hgd fun K hK => ?_
  obtain ⟨v', w', hrun, h2, h3⟩ := run_append_copy (P := P) w t o.type e i z size bytes ht hi hz hsize hby hzs hsz v n xs hr h1 hbytes h63
  unfold Oper.wp execOp
  have he : a.eval (.const (.slice none 0 0)) = .slice none 0 0 := rfl
  simp only [ho, resolve, invoke, builtin, Sem.run_bind, Sem.run_pure, Result.andThen_ok, List.map_toArray, List.map_cons, List.map_nil, hx, he, hrun]
  exact hK _ _ (h v' w' h2 h3)
end

/-- Bytes as cells. -/
def u8s (l : List UInt8) : List Value := l.map fun b => .int .u8 b.toNat
@[simp] theorem u8s_length (l : List UInt8) : (u8s l).length = l.length := by simp [u8s]
theorem u8s_one (l : List UInt8) : ∀ u ∈ u8s l, u.oneCell' = true := by
  intro u hu
  obtain ⟨_, _, rfl⟩ := List.mem_map.1 hu
  rfl
theorem u8s_get (l : List UInt8) (j : Nat) (h : j < l.length) : (u8s l)[j]? = some (.int .u8 l[j].toNat) := by
  simp [u8s, h]

end Go.Proofs.YtdpbjdkkaekebaaDoor
