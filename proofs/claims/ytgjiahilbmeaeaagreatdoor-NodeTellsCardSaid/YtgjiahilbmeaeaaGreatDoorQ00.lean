/- Joined of Base, Rows2. -/
import Derived.WalkKit
import Derived.WalkSpells
import Derived.Deep.AppendLies
import Derived.Maps.AppendAt
import Derived.Deep.QuietTactic
import Derived.BigQuiet
import Derived.Deep.RegionHeld3
import Derived.Deep.DrawnRows
import Derived.Deep.DeepMust
import Derived.Lib.SlBytesConst
set_option linter.unusedSimpArgs false
set_option linter.unusedVariables false
/- Small words on worlds, footprints and slices that every walk of this seat uses. No program is named here. -/
namespace Go.Proofs.YtgjiahilbmeaeaaGreatDoor
open Go Go.RowKit
theorem hid {p : Prop} (h : p) : Hid p := h
structure Keeps (F : List Nat) (w w' : World) : Prop where
 os : w'.os = w.os
 tape : w'.tape = w.tape
 output : w'.output = w.output
 size : w.heap.size ≤ w'.heap.size
 block : ∀ k, k < w.heap.size → k ∉ F → w'.heap[k]? = w.heap[k]?
namespace Keeps
variable {F G : List Nat} {w w' w'' : World}
theorem refl (F : List Nat) (w : World) : Keeps F w w := ⟨rfl, rfl, rfl, Nat.le_refl _, fun _ _ _ => rfl⟩
theorem mono (h : Keeps F w w') (s : ∀ k, k < w.heap.size → k ∈ F → k ∈ G) : Keeps G w w' :=
 ⟨h.os, h.tape, h.output, h.size, fun k hk hn => h.block k hk (fun hf => hn (s k hk hf))⟩
theorem trans (h : Keeps F w w') (g : Keeps G w' w'') (s : ∀ k, k < w.heap.size → k ∈ G → k ∈ F) : Keeps F w w'' :=
 ⟨g.os.trans h.os, g.tape.trans h.tape, g.output.trans h.output, Nat.le_trans h.size g.size,
  fun k hk hn => (g.block k (Nat.lt_of_lt_of_le hk h.size) (fun hg => hn (s k hk hg))).trans (h.block k hk hn)⟩
theorem ofGrown {row : Option Nat} (h : w.grownBy w' row) (s : ∀ k, row = some k → k ∈ F) : Keeps F w w' :=
 ⟨h.os, h.tape, h.output, h.size, fun k hk hn => h.block k hk (fun e => hn (s k e.symm))⟩
theorem ofBelow {B : Nat} (h : Below B w w') (s : ∀ k, k < w.heap.size → B ≤ k → k ∈ F) : Keeps F w w' :=
 ⟨h.os, h.tape, h.output, h.size, fun k hk hn => h.block k (by rcases Nat.lt_or_ge k B with l | l; exact l; exact absurd (s k hk l) hn)⟩
theorem below (h : Keeps F w w') {B : Nat} (hB : B ≤ w.heap.size) (s : ∀ k, k ∈ F → B ≤ k) : Below B w w' :=
 ⟨h.os, h.tape, h.output, h.size, fun k hk => h.block k (by omega) (fun hf => by have := s k hf; omega)⟩
theorem drew (h : Keeps F w w') : Keeps F w w'.drew := ⟨h.os, h.tape, h.output, h.size, h.block⟩
theorem drewN (h : Keeps F w w') (n : Nat) : Keeps F w (w'.drewN n) := ⟨h.os, h.tape, h.output, h.size, h.block⟩
theorem alloc (h : Keeps F w w') (o : Obj) : Keeps F w (w'.alloc o) :=
 h.trans (G := []) ⟨rfl, rfl, rfl, by simp, fun k hk _ => Below.heap_alloc w' o k hk⟩ (fun _ _ h => by cases h)
theorem setCell (h : Keeps F w w') {p : Addr} (hp : p.block ∈ F ∨ w.heap.size ≤ p.block) (u : Value) : Keeps F w (w'.setCell p u) :=
 h.trans (G := [p.block]) ⟨rfl, rfl, rfl, by simp, fun k _ hn => heap_setCell_other w' p k u (fun e => hn (by simp [e]))⟩
  (fun k hk hm => by simp at hm; subst hm; rcases hp with hp | hp; exact hp; omega)
theorem kR (F : List Nat) (w : World) : Keeps F w w := refl F w
theorem kA (h : Keeps F w w') (o : Obj) : Keeps F w (w'.alloc o) := h.alloc o
theorem kN (h : Keeps F w w') (n : Nat) : Keeps F w (w'.drewN n) := h.drewN n
theorem kD (h : Keeps F w w') : Keeps F w w'.drew := h.drew
theorem kS (h : Keeps F w w') {p : Addr} (hp : p.block ∈ F ∨ w.heap.size ≤ p.block) (u : Value) : Keeps F w (w'.setCell p u) := h.setCell hp u
theorem K (h : Keeps F w w' := by
 repeat (first
  | (with_reducible first | exact Keeps.kR _ _ | assumption | refine Keeps.kA ?_ _ | refine Keeps.kN ?_ _ | refine Keeps.kD ?_)
  | (with_reducible refine Keeps.kS ?_ ?_ _; rotate_left 1; · first | (refine .inl ?_; simp; done) | (refine .inr ?_; first | exact Nat.le_refl _ | (simp; done) | (simp; omega) | omega)))) : Keeps F w w' := h
theorem grown {w1 w2 : World} {row : Option Nat} (h : Keeps F w w') (g : w1.grownBy w2 row) (e1 : w1.heap = w'.heap) (e2 : w1.os = w'.os) (e3 : w1.tape = w'.tape) (e4 : w1.output = w'.output)
 (s : ∀ k, row = some k → k ∈ F ∨ w.heap.size ≤ k) : Keeps F w w2 :=
 ⟨g.os.trans (e2.trans h.os), g.tape.trans (e3.trans h.tape), g.output.trans (e4.trans h.output), Nat.le_trans h.size (by rw [← e1]; exact g.size),
  fun k hk hn => (g.block k (by rw [e1]; exact Nat.lt_of_lt_of_le hk h.size) (fun e => by rcases s k e.symm with h1 | h1; exact hn h1; omega)).trans (by rw [e1]; exact h.block k hk hn)⟩
theorem cell (h : Keeps F w w') {a : Addr} (ha : a.block < w.heap.size) (hn : a.block ∉ F) : w'.cell? a = w.cell? a := World.cell?_of_block (w := w) (h.block _ ha hn)
theorem cellSome (h : Keeps F w w') {a : Addr} {v : Value} (ha : w.cell? a = some v) (hn : a.block ∉ F) : w'.cell? a = some v := (h.cell (World.block_lt_of_cell? _ _ ha) hn).trans ha
theorem frozen (h : Keeps F w w') {a : Addr} (ha : a.block < w.heap.size) (hn : a.block ∉ F) : w'.frozen? a = w.frozen? a := World.frozen?_of_block (w := w) (h.block _ ha hn)
end Keeps
theorem le_maxLen {n : Nat} (h : n ≤ 140737488355328) : n ≤ maxLen := by unfold maxLen; omega
theorem addr_add (b o j : Nat) : (⟨b, o, none⟩ : Addr).add j = ⟨b, o + j, none⟩ := by unfold Addr.add; split <;> simp_all
def Reads (w : World) (size : Nat) (v : Value) (n : Nat) (xs : List Value) : Prop :=
 xs.length = n * size ∧ ((n = 0 ∧ ∃ a c, v = .slice a 0 c) ∨ (0 < n ∧ ∃ b off c, v = .slice (some ⟨b, off, none⟩) n c ∧ n ≤ c ∧ c ≤ maxLen ∧ b < w.heap.size ∧ ∀ j u, xs[j]? = some u → w.cell? ⟨b, off + j, none⟩ = some u))
def ownB (v : Value) : List Nat := v.ownBlock.toList
theorem mem_ownB {v : Value} {k : Nat} : k ∈ ownB v ↔ v.ownBlock = some k := by unfold ownB; cases v.ownBlock <;> simp [eq_comm]
theorem Reads.keeps {F : List Nat} {w w' : World} {size n : Nat} {v : Value} {xs : List Value} (h : Reads w size v n xs) (k : Keeps F w w') (hn : ∀ b, b ∈ ownB v → b ∉ F) : Reads w' size v n xs := by
 obtain ⟨hl, h | ⟨hp, b, off, c, rfl, hnc, hc, hb, hx⟩⟩ := h
 ·exact ⟨hl, .inl h⟩
 ·refine ⟨hl, .inr ⟨hp, b, off, c, rfl, hnc, hc, Nat.lt_of_lt_of_le hb k.size, fun j u hu => ?_⟩⟩
  exact k.cellSome (hx j u hu) (hn b (by simp [mem_ownB, Value.ownBlock]))
theorem Reads.below {B : Nat} {w w' : World} {size n : Nat} {v : Value} {xs : List Value} (h : Reads w size v n xs) (k : Below B w w') (hn : ∀ b, b ∈ ownB v → b < B) : Reads w' size v n xs := by
 obtain ⟨hl, h | ⟨hp, b, off, c, rfl, hnc, hc, hb, hx⟩⟩ := h
 ·exact ⟨hl, .inl h⟩
 ·refine ⟨hl, .inr ⟨hp, b, off, c, rfl, hnc, hc, Nat.lt_of_lt_of_le hb k.size, fun j u hu => ?_⟩⟩
  exact (k.cell (p := ⟨b, off + j, none⟩) (hn b (by simp [mem_ownB, Value.ownBlock]))).trans (hx j u hu)
theorem Reads.ofOwn {w : World} {base e size n : Nat} {v : Value} {xs : List Value} (h : w.ownsRow base e size v n xs) : Reads w size v n xs := by
 obtain ⟨hl, ⟨rfl, rfl⟩ | ⟨g, cap, cur, rfl, hb, hg, hnc, hcm, hcs, htake⟩⟩ := h
 ·exact ⟨hl, .inl ⟨rfl, none, 0, rfl⟩⟩
 ·rcases Nat.eq_zero_or_pos n with rfl | hp
  ·exact ⟨hl, .inl ⟨rfl, _, _, rfl⟩⟩
  ·refine ⟨hl, .inr ⟨hp, g, 0, cap, rfl, hnc, hcm, (Array.getElem?_eq_some_iff.1 hg).1, fun j u hu => ?_⟩⟩
   rw [Nat.zero_add, cell_of_row w g j cur e (0, 0) hg]
   rw [← htake, List.getElem?_take] at hu
   split at hu
   ·simpa using hu
   ·cases hu
theorem ownsRow_keeps {F : List Nat} {w w' : World} {base e size n : Nat} {v : Value} {xs : List Value} (h : w.ownsRow base e size v n xs) (k : Keeps F w w') (hn : ∀ b, b ∈ ownB v → b ∉ F) : w'.ownsRow base e size v n xs := by
 refine ⟨h.1, ?_⟩
 rcases h.2 with hx | ⟨g, cap, cur, rfl, hb, hg, rest⟩
 ·exact .inl hx
 ·refine .inr ⟨g, cap, cur, rfl, hb, ?_, rest⟩
  rw [k.block g (Array.getElem?_eq_some_iff.1 hg).1 (hn g (by simp [mem_ownB, Value.ownBlock]))]
  exact hg
theorem ownsRow_base {w : World} {base base' e size n : Nat} {v : Value} {xs : List Value} (h : w.ownsRow base e size v n xs) (hb : base' ≤ base) : w.ownsRow base' e size v n xs := by
 refine ⟨h.1, ?_⟩
 rcases h.2 with hx | ⟨g, cap, cur, rfl, hb', rest⟩
 ·exact .inl hx
 ·exact .inr ⟨g, cap, cur, rfl, Nat.le_trans hb hb', rest⟩
theorem len_form {w : World} {base e size n : Nat} {v : Value} {xs : List Value} (h : w.ownsRow base e size v n xs) : ∃ a c, v = .slice a n c := by
 rcases h.2 with ⟨rfl, rfl⟩ | ⟨g, cap, cur, rfl, _⟩
 ·exact ⟨_, _, rfl⟩
 ·exact ⟨_, _, rfl⟩
theorem cell_of_block {w : World} {b : Nat} {cs : Array Value} {t : TypeId} {fr : Nat × Nat} (h : w.heap[b]? = some (.cells cs t fr)) (j : Nat) : w.cell? ⟨b, j, none⟩ = cs[j]? := cell_of_row w b j cs t fr h
theorem ownB_ge {w : World} {base e size n : Nat} {v : Value} {xs : List Value} (h : w.ownsRow base e size v n xs) : ∀ b, b ∈ ownB v → base ≤ b ∧ b < w.heap.size := by
 intro b hb
 exact h.lt b (mem_ownB.1 hb)
section
variable {P : Program} (w : World)
theorem run_append_copy (t ty e : TypeId) (i : TypeInfo) (z : Value) (size bytes : Nat) (ht : P.underlying t = some (.slice e)) (hi : P.info? e = some i) (hz : i.zero = some z)
 (hsize : i.size = size) (hby : i.bytes = bytes) (hzs : z.cells.size = size) (hsz : 0 < size)
 (v : Value) (n : Nat) (xs : List Value) (hr : Reads w size v n xs) (h1 : ∀ u ∈ xs, u.oneCell' = true) (hbytes : n * bytes ≤ 140737488355328) (h63 : n ≤ maxLen) :
 ∃ v' w', (Builtin.append_ #[t, t] ty #[.slice none 0 0, v]).run P w = .ok v' w' ∧ w'.ownsRow w.heap.size e size v' n xs ∧ w.grownBy w' none := by
 obtain ⟨hl, ⟨rfl, a, c, rfl⟩ | ⟨hp, b, off, c, rfl, hnc, hc, hb, hx⟩⟩ := hr
 ·obtain rfl : xs = [] := List.eq_nil_of_length_eq_zero (by simpa using hl)
  refine ⟨.slice none 0 0, w, ?_, World.ownsRow_nil w _ e size, ⟨rfl, rfl, rfl, Nat.le_refl _, fun _ _ _ => rfl⟩⟩
  cases a <;> simp [Builtin.append_, run_underlying ht, sizeOf, typeInfo, hi, Builtin.lenOf, Builtin.firstCells, loadCells, loadCellsFrom]
 ·obtain ⟨v', w', h2, h3, h4, _⟩ := run_append_own_at (P := P) w w.heap.size t ty e i z size bytes ht hi hz hsize hby hzs hsz (.slice none 0 0) 0 [] (World.ownsRow_nil _ _ _ _)
   ⟨b, off, none⟩ n c xs hl (fun j u hu => by rw [show (⟨b, off, none⟩ : Addr).add j = ⟨b, off + j, none⟩ by unfold Addr.add; split <;> simp_all]; exact hx j u hu) h1 (by omega) (by simpa using hbytes) (Nat.le_refl _)
  rw [Nat.zero_add, List.nil_append] at h3
  exact ⟨v', w', h2, h3, h4⟩
theorem wpList_append_copy {ops : Array Oper} {rest : List Oper} {o : Oper} {a : Act} {Q : Exit → Act → World → Prop} (hgd : o.guard = none) (x : Operand) (t : TypeId)
 (ho : o.op = .call { callee := .builtin .append, args := #[.const (.slice none 0 0), x], argTypes := #[t, t] })
 (e : TypeId) (i : TypeInfo) (z : Value) (size bytes : Nat) (ht : P.underlying t = some (.slice e)) (hi : P.info? e = some i) (hz : i.zero = some z)
 (hsize : i.size = size) (hby : i.bytes = bytes) (hzs : z.cells.size = size) (hsz : 0 < size)
 (v : Value) (n : Nat) (xs : List Value) (hx : a.eval x = v) (hr : Reads w size v n xs) (h1 : ∀ u ∈ xs, u.oneCell' = true) (hbytes : n * bytes ≤ 140737488355328) (h63 : n ≤ maxLen)
 (h : ∀ v' w', w'.ownsRow w.heap.size e size v' n xs → w.grownBy w' none → wpList P ops Q rest (a.put o.dst v') w') : wpList P ops Q (o :: rest) a w := by
 refine wpList_plain hgd fun K hK => ?_
 obtain ⟨v', w', hrun, h2, h3⟩ := run_append_copy (P := P) w t o.type e i z size bytes ht hi hz hsize hby hzs hsz v n xs hr h1 hbytes h63
 unfold Oper.wp execOp
 have he : a.eval (.const (.slice none 0 0)) = .slice none 0 0 := rfl
 simp only [ho, resolve, invoke, builtin, Sem.run_bind, Sem.run_pure, Result.andThen_ok, List.map_toArray, List.map_cons, List.map_nil, hx, he, hrun]
 exact hK _ _ (h v' w' h2 h3)
end
def u8s (l : List UInt8) : List Value := l.map fun b => .int .u8 b.toNat
@[simp] theorem u8s_length (l : List UInt8) : (u8s l).length = l.length := by simp [u8s]
theorem u8s_one (l : List UInt8) : ∀ u ∈ u8s l, u.oneCell' = true := by
 intro u hu
 obtain ⟨_, _, rfl⟩ := List.mem_map.1 hu
 rfl
theorem u8s_get (l : List UInt8) (j : Nat) (h : j < l.length) : (u8s l)[j]? = some (.int .u8 l[j].toNat) := by
 simp [u8s, h]
def lay (L : List Value) (off : Nat) (cs : List Value) : List Value := L.take off ++ cs ++ L.drop (off + cs.length)
theorem lay_nil (L : List Value) (off : Nat) : lay L off [] = L := by simp [lay]
theorem Reads.ofBlock {w : World} {B n size : Nat} {cs : Array Value} {t : TypeId} {fr : Nat × Nat} (hb : w.heap[B]? = some (.cells cs t fr)) (hs : cs.size = n * size) (hm : n ≤ maxLen) : Reads w size (.slice (some ⟨B, 0, none⟩) n n) n cs.toList := by
 refine ⟨by simpa using hs, ?_⟩
 rcases Nat.eq_zero_or_pos n with rfl | hp
 ·exact .inl ⟨rfl, _, _, rfl⟩
 ·exact .inr ⟨hp, B, 0, n, rfl, Nat.le_refl _, hm, (Array.getElem?_eq_some_iff.1 hb).1, fun j u hu => by rw [Nat.zero_add, cell_of_row w B j cs t fr hb]; simpa using hu⟩
section
variable {P : Program} (w : World)
theorem run_copy_rows (t ty elem : TypeId) (i : TypeInfo) (size : Nat) (ht : P.underlying t = some (.slice elem)) (hi : P.info? elem = some i) (hsz : i.size = size) (dp sp : Option Addr) (dLen dCap sLen sCap g off : Nat) (cur : Array Value) (tt : TypeId)
 (hg : w.heap[g]? = some (.cells cur tt (0, 0))) (cs : List Value) (hn : cs.length = Nat.min sLen dLen * size)
 (hpos : 0 < cs.length → dp = some ⟨g, off, none⟩ ∧ ∃ ad, sp = some ad ∧ ∀ j v, cs[j]? = some v → w.cell? (ad.add j) = some v) (hfit : off + cs.length ≤ cur.size) (h1 : ∀ v ∈ cs, v.oneCell' = true) (hs0 : 0 < size) :
 ∃ w', (Builtin.copy_ #[t, t] ty #[.slice dp dLen dCap, .slice sp sLen sCap]).run P w = .ok (goInt (Nat.min sLen dLen)) w' ∧ w'.heap[g]? = some (.cells (lay cur.toList off cs).toArray tt (0, 0)) ∧ w.grownBy w' (some g) := by
 subst hsz
 by_cases h0 : cs.length = 0
 ·obtain rfl : cs = [] := List.eq_nil_of_length_eq_zero h0
  have hm : Nat.min sLen dLen = 0 := by
   have hz : Nat.min sLen dLen * i.size = 0 := by simpa using hn.symm
   rcases Nat.mul_eq_zero.1 hz with h | h
   ·exact h
   ·omega
  refine ⟨w, ?_, by rw [lay_nil]; simpa using hg, ⟨rfl, rfl, rfl, Nat.le_refl _, fun _ _ _ => rfl⟩⟩
  cases dp <;> cases sp <;> simp [Builtin.copy_, run_underlying ht, Builtin.lenOf, Builtin.firstCells, sizeOf, typeInfo, hi, hm, loadCells, loadCellsFrom, storeCells]
 ·obtain ⟨rfl, ad, rfl, hsrc⟩ := hpos (by omega)
  have hl := run_loadCells_list (P := P) w ad cs hsrc
  have hst := run_storeCells_at P g off tt cs 0 cur w hg (by simpa using hfit) h1
  refine ⟨w.setRow g (lay cur.toList off cs).toArray, ?_, setRow_heap w g cur _ tt _ hg, ⟨rfl, rfl, rfl, by simp, fun k _ hk => setRow_other w g k _ (fun e => hk (by simp [e]))⟩⟩
  simp [Builtin.copy_, run_underlying ht, Builtin.lenOf, Builtin.firstCells, sizeOf, typeInfo, hi, ← hn, hl, hst, lay]
theorem wpList_copy_rows {ops : Array Oper} {rest : List Oper} {o : Oper} {a : Act} {Q : Exit → Act → World → Prop} (hgd : o.guard = none) (d s : Operand) (t : TypeId)
 (ho : o.op = .call { callee := .builtin .copy, args := #[d, s], argTypes := #[t, t] }) (elem : TypeId) (i : TypeInfo) (size : Nat) (ht : P.underlying t = some (.slice elem)) (hi : P.info? elem = some i) (hsz : i.size = size)
 (dp sp : Option Addr) (dLen dCap sLen sCap : Nat) (hd : a.eval d = .slice dp dLen dCap) (hs : a.eval s = .slice sp sLen sCap) (g off : Nat) (cur : Array Value) (tt : TypeId)
 (hg : w.heap[g]? = some (.cells cur tt (0, 0))) (cs : List Value) (hn : cs.length = Nat.min sLen dLen * size)
 (hpos : 0 < cs.length → dp = some ⟨g, off, none⟩ ∧ ∃ ad, sp = some ad ∧ ∀ j v, cs[j]? = some v → w.cell? (ad.add j) = some v) (hfit : off + cs.length ≤ cur.size) (h1 : ∀ v ∈ cs, v.oneCell' = true) (hs0 : 0 < size)
 (h : ∀ w', Hid (w'.heap[g]? = some (.cells (lay cur.toList off cs).toArray tt (0, 0))) → Hid (w.grownBy w' (some g)) → wpList P ops Q rest (a.put o.dst (goInt (Nat.min sLen dLen))) w') : wpList P ops Q (o :: rest) a w := by
 refine wpList_plain hgd fun K hK => ?_
 obtain ⟨w', hrun, h2, h3⟩ := run_copy_rows (P := P) w t o.type elem i size ht hi hsz dp sp dLen dCap sLen sCap g off cur tt hg cs hn hpos hfit h1 hs0
 unfold Oper.wp execOp
 simp only [ho, resolve, invoke, builtin, Sem.run_bind, Sem.run_pure, Result.andThen_ok, List.map_toArray, List.map_cons, List.map_nil, hd, hs, hrun]
 exact hK _ _ (h w' h2 h3)
theorem append_olds (t ty base e : TypeId) (i : TypeInfo) (z : Value) (size bytes : Nat) (ht : P.underlying t = some (.slice e)) (hi : P.info? e = some i) (hz : i.zero = some z)
 (hsize : i.size = size) (hby : i.bytes = bytes)
 (v : Value) (n : Nat) (xs : List Value) (hown : w.ownsRow base e size v n xs) (ad : Addr) (m c : Nat) (news : List Value) (hl : news.length = m * size) (hnews : ∀ j u, news[j]? = some u → w.cell? (ad.add j) = some u)
 (h1 : ∀ u ∈ news, u.oneCell' = true) (h63 : n + m ≤ maxLen) (hbytes : (n + m) * bytes ≤ 140737488355328) {v' : Value} {w' : World} (hrun : (Builtin.append_ #[t, t] ty #[v, .slice (some ad) m c]).run P w = .ok v' w') :
 ∀ g j u, v.ownBlock = some g → xs[j]? = some u → w'.cell? ⟨g, j, none⟩ = some u := by
 subst hsize
 subst hby
 intro g j u hg hu
 have hsmall : n + m ≤ 9223372036854775807 := by simp only [maxLen] at h63; omega
 have hjl : j < n * i.size := by rw [← hown.1]; exact (List.getElem?_eq_some_iff.1 hu).1
 rcases hown.2 with ⟨rfl, rfl⟩ | ⟨g', cap, cur, rfl, hbg, hgg, hnc, hcm, hcs, htake⟩
 ·simp [Value.ownBlock] at hg
 ·have : g' = g := by simpa [Value.ownBlock] using hg
  subst this
  have hold : w.cell? ⟨g', j, none⟩ = some u := by
   rw [cell_of_row w g' j cur e (0, 0) hgg]
   rw [← htake, List.getElem?_take, if_pos hjl] at hu
   simpa using hu
  by_cases hroom : n + m ≤ cap
  ·have hfit : n * i.size + news.length ≤ cur.size := by rw [hl, hcs, ← Nat.add_mul]; exact Nat.mul_le_mul_right _ hroom
   have hr := run_append_room (P := P) w t ty e i ht hi g' n cap cur hgg ad m c news hl hnews h1 hroom hfit
   rw [hr] at hrun
   cases hrun
   rw [cell_setRow_same w g' j cur _ e (0, 0) hgg]
   rw [← htake] at hu
   rw [List.getElem?_toArray, List.append_assoc, List.getElem?_append_left (by rw [List.length_take, Array.length_toList]; omega)]
   exact hu
  ·have holds : ∀ j u, xs[j]? = some u → w.cell? ((⟨g', 0, none⟩ : Addr).add j) = some u := hown.cells (g := g') rfl
   have hr := run_append_grow (P := P) w t ty e i z ht hi hz ⟨g', 0, none⟩ n cap xs hown.1 holds ad m c news hl hnews (by omega) (by omega) (growslice_fits (by omega) hbytes)
   rw [hr] at hrun
   cases hrun
   rw [World.cell?_alloc_lt _ _ _ (by exact (Array.getElem?_eq_some_iff.1 hgg).1)]
   exact hold
theorem run_append_reads (t ty base e : TypeId) (i : TypeInfo) (z : Value) (size bytes : Nat) (ht : P.underlying t = some (.slice e)) (hi : P.info? e = some i) (hz : i.zero = some z)
 (hsize : i.size = size) (hby : i.bytes = bytes) (hzs : z.cells.size = size) (hsz : 0 < size)
 (v : Value) (n : Nat) (xs : List Value) (hown : w.ownsRow base e size v n xs) (x : Value) (m : Nat) (news : List Value) (hr : Reads w size x m news) (h1 : ∀ u ∈ news, u.oneCell' = true) (hbytes : (n + m) * bytes ≤ 140737488355328) (h63 : n + m ≤ maxLen) (hbase : base ≤ w.heap.size) :
 ∃ v' w', (Builtin.append_ #[t, t] ty #[v, x]).run P w = .ok v' w' ∧ w'.ownsRow base e size v' (n + m) (xs ++ news) ∧ w.grownBy w' v.ownBlock ∧ (v'.ownBlock = v.ownBlock ∨ v'.ownBlock = some w.heap.size) ∧ (∀ g j u, v.ownBlock = some g → xs[j]? = some u → w'.cell? ⟨g, j, none⟩ = some u) := by
 obtain ⟨hl, ⟨rfl, a, c, rfl⟩ | ⟨hp, b, off, c, rfl, hnc, hc, hb, hx⟩⟩ := hr
 ·obtain rfl : news = [] := List.eq_nil_of_length_eq_zero (by simpa using hl)
  refine ⟨v, w, ?_, by simpa using hown, ⟨rfl, rfl, rfl, Nat.le_refl _, fun _ _ _ => rfl⟩, .inl rfl, fun g j u hg hu => by have := hown.cells hg j u hu; rwa [addr_add, Nat.zero_add] at this⟩
  rcases hown.2 with ⟨rfl, rfl⟩ | ⟨g, cap, cur, rfl, _, _, hnc, _⟩
  ·cases a <;> simp [Builtin.append_, run_underlying ht, sizeOf, typeInfo, hi, Builtin.lenOf, Builtin.firstCells, loadCells, loadCellsFrom]
  ·cases a <;> simp [Builtin.append_, run_underlying ht, sizeOf, typeInfo, hi, Builtin.lenOf, Builtin.firstCells, hnc, storeCells, loadCells, loadCellsFrom]
 ·obtain ⟨v', w', h2, h3, h4, _, h5⟩ := run_append_own_at (P := P) w base t ty e i z size bytes ht hi hz hsize hby hzs hsz v n xs hown
   ⟨b, off, none⟩ m c news hl (fun j u hu => by rw [show (⟨b, off, none⟩ : Addr).add j = ⟨b, off + j, none⟩ by unfold Addr.add; split <;> simp_all]; exact hx j u hu) h1 h63 hbytes hbase
  exact ⟨v', w', h2, h3, h4, h5, append_olds w t ty base e i z size bytes ht hi hz hsize hby v n xs hown ⟨b, off, none⟩ m c news hl (fun j u hu => by rw [addr_add]; exact hx j u hu) h1 h63 hbytes h2⟩
theorem wpList_append_reads {ops : Array Oper} {rest : List Oper} {o : Oper} {a : Act} {Q : Exit → Act → World → Prop} (hgd : o.guard = none) (s x : Operand) (t : TypeId)
 (ho : o.op = .call { callee := .builtin .append, args := #[s, x], argTypes := #[t, t] })
 (base e : TypeId) (i : TypeInfo) (z : Value) (size bytes : Nat) (ht : P.underlying t = some (.slice e)) (hi : P.info? e = some i) (hz : i.zero = some z)
 (hsize : i.size = size) (hby : i.bytes = bytes) (hzs : z.cells.size = size) (hsz : 0 < size)
 (v : Value) (hs : a.eval s = v) (n : Nat) (xs : List Value) (hown : w.ownsRow base e size v n xs) (src : Value) (hx : a.eval x = src) (m : Nat) (news : List Value) (hr : Reads w size src m news) (h1 : ∀ u ∈ news, u.oneCell' = true) (hbytes : (n + m) * bytes ≤ 140737488355328) (h63 : n + m ≤ maxLen) (hbase : base ≤ w.heap.size)
 (h : ∀ a' c' w', Hid (w'.ownsRow base e size (.slice a' (n + m) c') (n + m) (xs ++ news)) → Hid (w.grownBy w' v.ownBlock) → Hid ((Value.slice a' (n + m) c').ownBlock = v.ownBlock ∨ (Value.slice a' (n + m) c').ownBlock = some w.heap.size) → Hid (∀ g j u, v.ownBlock = some g → xs[j]? = some u → w'.cell? ⟨g, j, none⟩ = some u) → wpList P ops Q rest (a.put o.dst (.slice a' (n + m) c')) w') : wpList P ops Q (o :: rest) a w := by
 refine wpList_plain hgd fun K hK => ?_
 obtain ⟨v', w', hrun, h2, h3, h4, h5⟩ := run_append_reads (P := P) w t o.type base e i z size bytes ht hi hz hsize hby hzs hsz v n xs hown src m news hr h1 hbytes h63 hbase
 obtain ⟨a', c', rfl⟩ := len_form h2
 unfold Oper.wp execOp
 simp only [ho, resolve, invoke, builtin, Sem.run_bind, Sem.run_pure, Result.andThen_ok, List.map_toArray, List.map_cons, List.map_nil, hs, hx, hrun]
 exact hK _ _ (h a' c' w' h2 h3 h4 h5)
end
end Go.Proofs.YtgjiahilbmeaeaaGreatDoor