/- Laws on copy, clear and append for rows of elements of whatever size. No program is named here. -/
import Derived.Test.YtdpbjdkkaekebaaDoorBase
namespace Go.Proofs.YtdpbjdkkaekebaaDoor
open Go Go.RowKit

def lay (L : List Value) (off : Nat) (cs : List Value) : List Value := L.take off ++ cs ++ L.drop (off + cs.length)

theorem lay_length (L : List Value) (off : Nat) (cs : List Value) (h : off + cs.length ≤ L.length) : (lay L off cs).length = L.length := by simp [lay]; omega
theorem lay_take (L : List Value) (off : Nat) (cs : List Value) (h : off + cs.length ≤ L.length) : (lay L off cs).take (off + cs.length) = L.take off ++ cs := by
  unfold lay
  rw [List.take_append_of_le_length (by simp; omega), List.take_of_length_le (by simp; omega)]
theorem lay_nil (L : List Value) (off : Nat) : lay L off [] = L := by simp [lay]

/-- A block that is known whole, read from its head. -/
theorem Reads.ofBlock {w : World} {B n size : Nat} {cs : Array Value} {t : TypeId} {fr : Nat × Nat} (hb : w.heap[B]? = some (.cells cs t fr)) (hs : cs.size = n * size) (hm : n ≤ maxLen) : Reads w size (.slice (some ⟨B, 0, none⟩) n n) n cs.toList := by
  refine ⟨by simpa using hs, ?_⟩
  rcases Nat.eq_zero_or_pos n with rfl | hp
  · exact .inl ⟨rfl, _, _, rfl⟩
  · exact .inr ⟨hp, B, 0, n, rfl, Nat.le_refl _, hm, (Array.getElem?_eq_some_iff.1 hb).1, fun j u hu => by rw [Nat.zero_add, cell_of_row w B j cs t fr hb]; simpa using hu⟩

section
variable {P : Program} (w : World)

theorem run_copy_rows (t ty elem : TypeId) (i : TypeInfo) (size : Nat) (ht : P.underlying t = some (.slice elem)) (hi : P.info? elem = some i) (hsz : i.size = size) (dp sp : Option Addr) (dLen dCap sLen sCap g off : Nat) (cur : Array Value) (tt : TypeId)
    (hg : w.heap[g]? = some (.cells cur tt (0, 0))) (cs : List Value) (hn : cs.length = Nat.min sLen dLen * size)
    (hpos : 0 < cs.length → dp = some ⟨g, off, none⟩ ∧ ∃ ad, sp = some ad ∧ ∀ j v, cs[j]? = some v → w.cell? (ad.add j) = some v) (hfit : off + cs.length ≤ cur.size) (h1 : ∀ v ∈ cs, v.oneCell' = true) (hs0 : 0 < size) :
    ∃ w', (Builtin.copy_ #[t, t] ty #[.slice dp dLen dCap, .slice sp sLen sCap]).run P w = .ok (goInt (Nat.min sLen dLen)) w' ∧ w'.heap[g]? = some (.cells (lay cur.toList off cs).toArray tt (0, 0)) ∧ w.grownBy w' (some g) := by
  subst hsz
  by_cases h0 : cs.length = 0
  · obtain rfl : cs = [] := List.eq_nil_of_length_eq_zero h0
    have hm : Nat.min sLen dLen = 0 := by
      have hz : Nat.min sLen dLen * i.size = 0 := by simpa using hn.symm
      rcases Nat.mul_eq_zero.1 hz with h | h
      · exact h
      · omega
    refine ⟨w, ?_, by rw [lay_nil]; simpa using hg, ⟨rfl, rfl, rfl, Nat.le_refl _, fun _ _ _ => rfl⟩⟩
    cases dp <;> cases sp <;> simp [Builtin.copy_, run_underlying ht, Builtin.lenOf, Builtin.firstCells, sizeOf, typeInfo, hi, hm, loadCells, loadCellsFrom, storeCells]
  · obtain ⟨rfl, ad, rfl, hsrc⟩ := hpos (by omega)
    have hl := run_loadCells_list (P := P) w ad cs hsrc
    have hst := run_storeCells_at P g off tt cs 0 cur w hg (by simpa using hfit) h1
    refine ⟨w.setRow g (lay cur.toList off cs).toArray, ?_, setRow_heap w g cur _ tt _ hg, ⟨rfl, rfl, rfl, by simp, fun k _ hk => setRow_other w g k _ (fun e => hk (by simp [e]))⟩⟩
    simp [Builtin.copy_, run_underlying ht, Builtin.lenOf, Builtin.firstCells, sizeOf, typeInfo, hi, ← hn, hl, hst, lay]

theorem wpList_copy_rows {ops : Array Oper} {rest : List Oper} {o : Oper} {a : Act} {Q : Exit → Act → World → Prop} (hgd : o.guard = none) (d s : Operand) (t : TypeId)
    (ho : o.op = .call { callee := .builtin .copy, args := #[d, s], argTypes := #[t, t] }) (elem : TypeId) (i : TypeInfo) (size : Nat) (ht : P.underlying t = some (.slice elem)) (hi : P.info? elem = some i) (hsz : i.size = size)
    (dp sp : Option Addr) (dLen dCap sLen sCap : Nat) (hd : a.eval d = .slice dp dLen dCap) (hs : a.eval s = .slice sp sLen sCap) (g off : Nat) (cur : Array Value) (tt : TypeId)
    (hg : w.heap[g]? = some (.cells cur tt (0, 0))) (cs : List Value) (hn : cs.length = Nat.min sLen dLen * size)
    (hpos : 0 < cs.length → dp = some ⟨g, off, none⟩ ∧ ∃ ad, sp = some ad ∧ ∀ j v, cs[j]? = some v → w.cell? (ad.add j) = some v) (hfit : off + cs.length ≤ cur.size) (h1 : ∀ v ∈ cs, v.oneCell' = true) (hs0 : 0 < size)
    (h : ∀ w', Hid (w'.heap[g]? = some (.cells (lay cur.toList off cs).toArray tt (0, 0))) → Hid (w.grownBy w' (some g)) → wpList P ops Q rest (a.put o.dst (goInt (Nat.min sLen dLen))) w') : wpList P ops Q (o :: rest) a w := by
  refine wpList_plain hgd fun K hK => ?_
  obtain ⟨w', hrun, h2, h3⟩ := run_copy_rows (P := P) w t o.type elem i size ht hi hsz dp sp dLen dCap sLen sCap g off cur tt hg cs hn hpos hfit h1 hs0
  unfold Oper.wp execOp
  simp only [ho, resolve, invoke, builtin, Sem.run_bind, Sem.run_pure, Result.andThen_ok, List.map_toArray, List.map_cons, List.map_nil, hd, hs, hrun]
  exact hK _ _ (h w' h2 h3)

/-- clear of n elements in the midst of a row. -/
theorem run_clear_row (t ty elem : TypeId) (i : TypeInfo) (z : Value) (ht : P.underlying t = some (.slice elem)) (hi : P.info? elem = some i) (hz : i.zero = some z) (dp : Option Addr) (n c g off : Nat) (cur : Array Value) (tt : TypeId)
    (hg : w.heap[g]? = some (.cells cur tt (0, 0))) (hpos : 0 < n → dp = some ⟨g, off, none⟩) (hfit : off + n * z.cells.size ≤ cur.size) (h1 : ∀ v ∈ z.cells, v.oneCell' = true) (hzs : 0 < z.cells.size) :
    ∃ w', (Builtin.clear_ #[t] ty #[.slice dp n c]).run P w = .ok (.tuple #[]) w' ∧ w'.heap[g]? = some (.cells (lay cur.toList off (Builtin.zeroCells z.cells n).toList).toArray tt (0, 0)) ∧ w.grownBy w' (some g) := by
  by_cases h0 : n = 0
  · subst h0
    have e : (Builtin.zeroCells z.cells 0).toList = [] := by simp [Builtin.zeroCells]
    refine ⟨w, ?_, by rw [e, lay_nil]; simpa using hg, ⟨rfl, rfl, rfl, Nat.le_refl _, fun _ _ _ => rfl⟩⟩
    cases dp <;> simp [Builtin.clear_, run_underlying ht]
  · obtain rfl := hpos (by omega)
    have hall : ∀ v ∈ (Builtin.zeroCells z.cells n).toList, v.oneCell' = true := by
      intro v hv
      simp only [Builtin.zeroCells, Array.toList_map, List.mem_map] at hv
      obtain ⟨j, hj, rfl⟩ := hv
      have hlt : j % z.cells.size < z.cells.size := Nat.mod_lt _ hzs
      rw [getElem!_pos z.cells _ hlt]
      exact h1 _ (Array.getElem_mem hlt)
    have hlen : (Builtin.zeroCells z.cells n).toList.length = n * z.cells.size := by simp [Builtin.zeroCells]
    have hst := run_storeCells_at P g off tt (Builtin.zeroCells z.cells n).toList 0 cur w hg (by rw [hlen]; simpa using hfit) hall
    refine ⟨w.setRow g (lay cur.toList off (Builtin.zeroCells z.cells n).toList).toArray, ?_, setRow_heap w g cur _ tt _ hg, ⟨rfl, rfl, rfl, by simp, fun k _ hk => setRow_other w g k _ (fun e => hk (by simp [e]))⟩⟩
    simp only [Nat.add_zero] at hst
    obtain ⟨m, rfl⟩ := Nat.exists_eq_succ_of_ne_zero h0
    simp [Builtin.clear_, run_underlying ht, zeroValue, typeInfo, hi, hz, hst, lay]

theorem wpList_clear_row {ops : Array Oper} {rest : List Oper} {o : Oper} {a : Act} {Q : Exit → Act → World → Prop} (hgd : o.guard = none) (d : Operand) (t : TypeId)
    (ho : o.op = .call { callee := .builtin .clear, args := #[d], argTypes := #[t] }) (elem : TypeId) (i : TypeInfo) (z : Value) (ht : P.underlying t = some (.slice elem)) (hi : P.info? elem = some i) (hz : i.zero = some z)
    (dp : Option Addr) (n c : Nat) (hd : a.eval d = .slice dp n c) (g off : Nat) (cur : Array Value) (tt : TypeId)
    (hg : w.heap[g]? = some (.cells cur tt (0, 0))) (hpos : 0 < n → dp = some ⟨g, off, none⟩) (hfit : off + n * z.cells.size ≤ cur.size) (h1 : ∀ v ∈ z.cells, v.oneCell' = true) (hzs : 0 < z.cells.size)
    (h : ∀ w', Hid (w'.heap[g]? = some (.cells (lay cur.toList off (Builtin.zeroCells z.cells n).toList).toArray tt (0, 0))) → Hid (w.grownBy w' (some g)) → wpList P ops Q rest (a.put o.dst (.tuple #[])) w') : wpList P ops Q (o :: rest) a w := by
  refine wpList_plain hgd fun K hK => ?_
  obtain ⟨w', hrun, h2, h3⟩ := run_clear_row (P := P) w t o.type elem i z ht hi hz dp n c g off cur tt hg hpos hfit h1 hzs
  unfold Oper.wp execOp
  simp only [ho, resolve, invoke, builtin, Sem.run_bind, Sem.run_pure, Result.andThen_ok, List.map_toArray, List.map_cons, List.map_nil, hd, hrun]
  exact hK _ _ (h w' h2 h3)

/-- What the own row held stays readable where it lay. -/
theorem append_olds (t ty base e : TypeId) (i : TypeInfo) (z : Value) (size bytes : Nat) (ht : P.underlying t = some (.slice e)) (hi : P.info? e = some i) (hz : i.zero = some z)
    (hsize : i.size = size) (hby : i.bytes = bytes)
    (v : Value) (n : Nat) (xs : List Value) (hown : w.ownsRow base e size v n xs) (ad : Addr) (m c : Nat) (news : List Value) (hl : news.length = m * size) (hnews : ∀ j u, news[j]? = some u → w.cell? (ad.add j) = some u)
    (h1 : ∀ u ∈ news, u.oneCell' = true) (h63 : n + m ≤ maxLen) (hbytes : (n + m) * bytes ≤ 140737488355328) {v' : Value} {w' : World} (hrun : (Builtin.append_ #[t, t] ty #[v, .slice (some ad) m c]).run P w = .ok v' w') :
    ∀ g j u, v.ownBlock = some g → xs[j]? = some u → w'.cell? ⟨g, j, none⟩ = some u := by
  subst hsize
  subst hby
  intro g j u hg hu
  have hsmall : n + m ≤ 9223372036854775807 := by simp only [maxLen] at h63; omega
  have hjl : j < n * i.size := by rw [← hown.1]; exact (List.getElem?_eq_some_iff.1 hu).1
  rcases hown.2 with ⟨rfl, rfl⟩ | ⟨g', cap, cur, rfl, hbg, hgg, hnc, hcm, hcs, htake⟩
  · simp [Value.ownBlock] at hg
  · have : g' = g := by simpa [Value.ownBlock] using hg
    subst this
    have hold : w.cell? ⟨g', j, none⟩ = some u := by
      rw [cell_of_row w g' j cur e (0, 0) hgg]
      rw [← htake, List.getElem?_take, if_pos hjl] at hu
      simpa using hu
    by_cases hroom : n + m ≤ cap
    · have hfit : n * i.size + news.length ≤ cur.size := by rw [hl, hcs, ← Nat.add_mul]; exact Nat.mul_le_mul_right _ hroom
      have hr := run_append_room (P := P) w t ty e i ht hi g' n cap cur hgg ad m c news hl hnews h1 hroom hfit
      rw [hr] at hrun
      cases hrun
      rw [cell_setRow_same w g' j cur _ e (0, 0) hgg]
      rw [← htake] at hu
      rw [List.getElem?_toArray, List.append_assoc, List.getElem?_append_left (by rw [List.length_take, Array.length_toList]; omega)]
      exact hu
    · have holds : ∀ j u, xs[j]? = some u → w.cell? ((⟨g', 0, none⟩ : Addr).add j) = some u := hown.cells (g := g') rfl
      have hr := run_append_grow (P := P) w t ty e i z ht hi hz ⟨g', 0, none⟩ n cap xs hown.1 holds ad m c news hl hnews (by omega) (by omega) (growslice_fits (by omega) hbytes)
      rw [hr] at hrun
      cases hrun
      rw [World.cell?_alloc_lt _ _ _ (by exact (Array.getElem?_eq_some_iff.1 hgg).1)]
      exact hold

/-- append(own, src...), whatever src: an own row; a source that reads. -/
theorem run_append_reads (t ty base e : TypeId) (i : TypeInfo) (z : Value) (size bytes : Nat) (ht : P.underlying t = some (.slice e)) (hi : P.info? e = some i) (hz : i.zero = some z)
    (hsize : i.size = size) (hby : i.bytes = bytes) (hzs : z.cells.size = size) (hsz : 0 < size)
    (v : Value) (n : Nat) (xs : List Value) (hown : w.ownsRow base e size v n xs) (x : Value) (m : Nat) (news : List Value) (hr : Reads w size x m news) (h1 : ∀ u ∈ news, u.oneCell' = true) (hbytes : (n + m) * bytes ≤ 140737488355328) (h63 : n + m ≤ maxLen) (hbase : base ≤ w.heap.size) :
    ∃ v' w', (Builtin.append_ #[t, t] ty #[v, x]).run P w = .ok v' w' ∧ w'.ownsRow base e size v' (n + m) (xs ++ news) ∧ w.grownBy w' v.ownBlock ∧ (v'.ownBlock = v.ownBlock ∨ v'.ownBlock = some w.heap.size) ∧ (∀ g j u, v.ownBlock = some g → xs[j]? = some u → w'.cell? ⟨g, j, none⟩ = some u) := by
  obtain ⟨hl, ⟨rfl, a, c, rfl⟩ | ⟨hp, b, off, c, rfl, hnc, hc, hb, hx⟩⟩ := hr
  · obtain rfl : news = [] := List.eq_nil_of_length_eq_zero (by simpa using hl)
    refine ⟨v, w, ?_, by simpa using hown, ⟨rfl, rfl, rfl, Nat.le_refl _, fun _ _ _ => rfl⟩, .inl rfl, fun g j u hg hu => by have := hown.cells hg j u hu; rwa [addr_add, Nat.zero_add] at this⟩
    rcases hown.2 with ⟨rfl, rfl⟩ | ⟨g, cap, cur, rfl, _, _, hnc, _⟩
    · cases a <;> simp [Builtin.append_, run_underlying ht, sizeOf, typeInfo, hi, Builtin.lenOf, Builtin.firstCells, loadCells, loadCellsFrom]
    · cases a <;> simp [Builtin.append_, run_underlying ht, sizeOf, typeInfo, hi, Builtin.lenOf, Builtin.firstCells, hnc, storeCells, loadCells, loadCellsFrom]
  · obtain ⟨v', w', h2, h3, h4, _, h5⟩ := run_append_own_at (P := P) w base t ty e i z size bytes ht hi hz hsize hby hzs hsz v n xs hown
      ⟨b, off, none⟩ m c news hl (fun j u hu => by rw [show (⟨b, off, none⟩ : Addr).add j = ⟨b, off + j, none⟩ by unfold Addr.add; split <;> simp_all]; exact hx j u hu) h1 h63 hbytes hbase
    exact ⟨v', w', h2, h3, h4, h5, append_olds w t ty base e i z size bytes ht hi hz hsize hby v n xs hown ⟨b, off, none⟩ m c news hl (fun j u hu => by rw [addr_add]; exact hx j u hu) h1 h63 hbytes h2⟩

theorem wpList_append_reads {ops : Array Oper} {rest : List Oper} {o : Oper} {a : Act} {Q : Exit → Act → World → Prop} (hgd : o.guard = none) (s x : Operand) (t : TypeId)
    (ho : o.op = .call { callee := .builtin .append, args := #[s, x], argTypes := #[t, t] })
    (base e : TypeId) (i : TypeInfo) (z : Value) (size bytes : Nat) (ht : P.underlying t = some (.slice e)) (hi : P.info? e = some i) (hz : i.zero = some z)
    (hsize : i.size = size) (hby : i.bytes = bytes) (hzs : z.cells.size = size) (hsz : 0 < size)
    (v : Value) (hs : a.eval s = v) (n : Nat) (xs : List Value) (hown : w.ownsRow base e size v n xs) (src : Value) (hx : a.eval x = src) (m : Nat) (news : List Value) (hr : Reads w size src m news) (h1 : ∀ u ∈ news, u.oneCell' = true) (hbytes : (n + m) * bytes ≤ 140737488355328) (h63 : n + m ≤ maxLen) (hbase : base ≤ w.heap.size)
    (h : ∀ a' c' w', Hid (w'.ownsRow base e size (.slice a' (n + m) c') (n + m) (xs ++ news)) → Hid (w.grownBy w' v.ownBlock) → Hid ((Value.slice a' (n + m) c').ownBlock = v.ownBlock ∨ (Value.slice a' (n + m) c').ownBlock = some w.heap.size) → Hid (∀ g j u, v.ownBlock = some g → xs[j]? = some u → w'.cell? ⟨g, j, none⟩ = some u) → wpList P ops Q rest (a.put o.dst (.slice a' (n + m) c')) w') : wpList P ops Q (o :: rest) a w := by
  refine wpList_plain hgd fun K hK => ?_
  obtain ⟨v', w', hrun, h2, h3, h4, h5⟩ := run_append_reads (P := P) w t o.type base e i z size bytes ht hi hz hsize hby hzs hsz v n xs hown src m news hr h1 hbytes h63 hbase
  obtain ⟨a', c', rfl⟩ := len_form h2
  unfold Oper.wp execOp
  simp only [ho, resolve, invoke, builtin, Sem.run_bind, Sem.run_pure, Result.andThen_ok, List.map_toArray, List.map_cons, List.map_nil, hs, hx, hrun]
  exact hK _ _ (h a' c' w' h2 h3 h4 h5)
end
end Go.Proofs.YtdpbjdkkaekebaaDoor
