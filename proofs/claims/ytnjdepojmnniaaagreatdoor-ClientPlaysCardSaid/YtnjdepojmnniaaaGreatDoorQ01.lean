/- Joined of Rows2, Strs, RfA0, RfE0, VaQ. -/
import Derived.Test.YtnjdepojmnniaaaGreatDoorQ00
import Derived.Lib.ItoaNum
import Derived.Lib.ItoaLen
import Derived.Lib.RuneBytes
import Derived.Lib.MapLaws

set_option linter.unusedSimpArgs false
set_option linter.unusedVariables false

/- Laws on copy, clear and append for rows of elements of whatever size. No program is named here. -/
namespace Go.Proofs.YtnjdepojmnniaaaGreatDoor
open Go Go.RowKit

def lay (L : List Value) (off : Nat) (cs : List Value) : List Value := L.take off ++ cs ++ L.drop (off + cs.length)

theorem lay_length (L : List Value) (off : Nat) (cs : List Value) (h : off + cs.length ≤ L.length) : (lay L off cs).length = L.length := by simp [lay]; omega
theorem lay_take (L : List Value) (off : Nat) (cs : List Value) (h : off + cs.length ≤ L.length) : (lay L off cs).take (off + cs.length) = L.take off ++ cs := by
  unfold lay
  rw [List.take_append_of_le_length (by simp; omega), List.take_of_length_le (by simp; omega)]
theorem lay_nil (L : List Value) (off : Nat) : lay L off [] = L := by simp [lay]

/-- A block that is known whole, read from its head. -/
theorem Reads.ofBlock {w : World} {B n size : Nat} {cs : Array Value} {t : TypeId} {fr : Nat × Nat} (hb : w.heap[B]? = some (.cells cs t fr)) (hs : cs.size = n * size) (hm : n ≤ maxLen) : Reads w size (.slice (some ⟨B, 0, none⟩) n n) n cs.toList := by
  refine ⟨by simpa using hs, ?_⟩
  rcases Nat.eq_zero_or_pos n with rfl | hp
  · exact .inl ⟨rfl, _, _, rfl⟩
  · exact .inr ⟨hp, B, 0, n, rfl, Nat.le_refl _, hm, (Array.getElem?_eq_some_iff.1 hb).1, fun j u hu => by rw [Nat.zero_add, cell_of_row w B j cs t fr hb]; simpa using hu⟩

section
variable {P : Program} (w : World)

theorem run_copy_rows (t ty elem : TypeId) (i : TypeInfo) (size : Nat) (ht : P.underlying t = some (.slice elem)) (hi : P.info? elem = some i) (hsz : i.size = size) (dp sp : Option Addr) (dLen dCap sLen sCap g off : Nat) (cur : Array Value) (tt : TypeId)
    (hg : w.heap[g]? = some (.cells cur tt (0, 0))) (cs : List Value) (hn : cs.length = Nat.min sLen dLen * size)
    (hpos : 0 < cs.length → dp = some ⟨g, off, none⟩ ∧ ∃ ad, sp = some ad ∧ ∀ j v, cs[j]? = some v → w.cell? (ad.add j) = some v) (hfit : off + cs.length ≤ cur.size) (h1 : ∀ v ∈ cs, v.oneCell' = true) (hs0 : 0 < size) :
    ∃ w', (Builtin.copy_ #[t, t] ty #[.slice dp dLen dCap, .slice sp sLen sCap]).run P w = .ok (goInt (Nat.min sLen dLen)) w' ∧ w'.heap[g]? = some (.cells (lay cur.toList off cs).toArray tt (0, 0)) ∧ w.grownBy w' (some g) := by
  subst hsz
  by_cases h0 : cs.length = 0
  · obtain rfl : cs = [] := List.eq_nil_of_length_eq_zero h0
    have hm : Nat.min sLen dLen = 0 := by
      have hz : Nat.min sLen dLen * i.size = 0 := by simpa using hn.symm
      rcases Nat.mul_eq_zero.1 hz with h | h
      · exact h
      · omega
    refine ⟨w, ?_, by rw [lay_nil]; simpa using hg, ⟨rfl, rfl, rfl, Nat.le_refl _, fun _ _ _ => rfl⟩⟩
    cases dp <;> cases sp <;> simp [Builtin.copy_, run_underlying ht, Builtin.lenOf, Builtin.firstCells, sizeOf, typeInfo, hi, hm, loadCells, loadCellsFrom, storeCells]
  · obtain ⟨rfl, ad, rfl, hsrc⟩ := hpos (by omega)
    have hl := run_loadCells_list (P := P) w ad cs hsrc
    have hst := run_storeCells_at P g off tt cs 0 cur w hg (by simpa using hfit) h1
    refine ⟨w.setRow g (lay cur.toList off cs).toArray, ?_, setRow_heap w g cur _ tt _ hg, ⟨rfl, rfl, rfl, by simp, fun k _ hk => setRow_other w g k _ (fun e => hk (by simp [e]))⟩⟩
    simp [Builtin.copy_, run_underlying ht, Builtin.lenOf, Builtin.firstCells, sizeOf, typeInfo, hi, ← hn, hl, hst, lay]

theorem wpList_copy_rows {ops : Array Oper} {rest : List Oper} {o : Oper} {a : Act} {Q : Exit → Act → World → Prop} (hgd : o.guard = none) (d s : Operand) (t : TypeId)
    (ho : o.op = .call { callee := .builtin .copy, args := #[d, s], argTypes := #[t, t] }) (elem : TypeId) (i : TypeInfo) (size : Nat) (ht : P.underlying t = some (.slice elem)) (hi : P.info? elem = some i) (hsz : i.size = size)
    (dp sp : Option Addr) (dLen dCap sLen sCap : Nat) (hd : a.eval d = .slice dp dLen dCap) (hs : a.eval s = .slice sp sLen sCap) (g off : Nat) (cur : Array Value) (tt : TypeId)
    (hg : w.heap[g]? = some (.cells cur tt (0, 0))) (cs : List Value) (hn : cs.length = Nat.min sLen dLen * size)
    (hpos : 0 < cs.length → dp = some ⟨g, off, none⟩ ∧ ∃ ad, sp = some ad ∧ ∀ j v, cs[j]? = some v → w.cell? (ad.add j) = some v) (hfit : off + cs.length ≤ cur.size) (h1 : ∀ v ∈ cs, v.oneCell' = true) (hs0 : 0 < size)
    (h : ∀ w', Hid (w'.heap[g]? = some (.cells (lay cur.toList off cs).toArray tt (0, 0))) → Hid (w.grownBy w' (some g)) → wpList P ops Q rest (a.put o.dst (goInt (Nat.min sLen dLen))) w') : wpList P ops Q (o :: rest) a w := by
  refine wpList_plain hgd fun K hK => ?_
  obtain ⟨w', hrun, h2, h3⟩ := run_copy_rows (P := P) w t o.type elem i size ht hi hsz dp sp dLen dCap sLen sCap g off cur tt hg cs hn hpos hfit h1 hs0
  unfold Oper.wp execOp
  simp only [ho, resolve, invoke, builtin, Sem.run_bind, Sem.run_pure, Result.andThen_ok, List.map_toArray, List.map_cons, List.map_nil, hd, hs, hrun]
  exact hK _ _ (h w' h2 h3)

/-- clear of n elements in the midst of a row. -/
theorem run_clear_row (t ty elem : TypeId) (i : TypeInfo) (z : Value) (ht : P.underlying t = some (.slice elem)) (hi : P.info? elem = some i) (hz : i.zero = some z) (dp : Option Addr) (n c g off : Nat) (cur : Array Value) (tt : TypeId)
    (hg : w.heap[g]? = some (.cells cur tt (0, 0))) (hpos : 0 < n → dp = some ⟨g, off, none⟩) (hfit : off + n * z.cells.size ≤ cur.size) (h1 : ∀ v ∈ z.cells, v.oneCell' = true) (hzs : 0 < z.cells.size) :
    ∃ w', (Builtin.clear_ #[t] ty #[.slice dp n c]).run P w = .ok (.tuple #[]) w' ∧ w'.heap[g]? = some (.cells (lay cur.toList off (Builtin.zeroCells z.cells n).toList).toArray tt (0, 0)) ∧ w.grownBy w' (some g) := by
  by_cases h0 : n = 0
  · subst h0
    have e : (Builtin.zeroCells z.cells 0).toList = [] := by simp [Builtin.zeroCells]
    refine ⟨w, ?_, by rw [e, lay_nil]; simpa using hg, ⟨rfl, rfl, rfl, Nat.le_refl _, fun _ _ _ => rfl⟩⟩
    cases dp <;> simp [Builtin.clear_, run_underlying ht]
  · obtain rfl := hpos (by omega)
    have hall : ∀ v ∈ (Builtin.zeroCells z.cells n).toList, v.oneCell' = true := by
      intro v hv
      simp only [Builtin.zeroCells, Array.toList_map, List.mem_map] at hv
      obtain ⟨j, hj, rfl⟩ := hv
      have hlt : j % z.cells.size < z.cells.size := Nat.mod_lt _ hzs
      rw [getElem!_pos z.cells _ hlt]
      exact h1 _ (Array.getElem_mem hlt)
    have hlen : (Builtin.zeroCells z.cells n).toList.length = n * z.cells.size := by simp [Builtin.zeroCells]
    have hst := run_storeCells_at P g off tt (Builtin.zeroCells z.cells n).toList 0 cur w hg (by rw [hlen]; simpa using hfit) hall
    refine ⟨w.setRow g (lay cur.toList off (Builtin.zeroCells z.cells n).toList).toArray, ?_, setRow_heap w g cur _ tt _ hg, ⟨rfl, rfl, rfl, by simp, fun k _ hk => setRow_other w g k _ (fun e => hk (by simp [e]))⟩⟩
    simp only [Nat.add_zero] at hst
    obtain ⟨m, rfl⟩ := Nat.exists_eq_succ_of_ne_zero h0
    simp [Builtin.clear_, run_underlying ht, zeroValue, typeInfo, hi, hz, hst, lay]

theorem wpList_clear_row {ops : Array Oper} {rest : List Oper} {o : Oper} {a : Act} {Q : Exit → Act → World → Prop} (hgd : o.guard = none) (d : Operand) (t : TypeId)
    (ho : o.op = .call { callee := .builtin .clear, args := #[d], argTypes := #[t] }) (elem : TypeId) (i : TypeInfo) (z : Value) (ht : P.underlying t = some (.slice elem)) (hi : P.info? elem = some i) (hz : i.zero = some z)
    (dp : Option Addr) (n c : Nat) (hd : a.eval d = .slice dp n c) (g off : Nat) (cur : Array Value) (tt : TypeId)
    (hg : w.heap[g]? = some (.cells cur tt (0, 0))) (hpos : 0 < n → dp = some ⟨g, off, none⟩) (hfit : off + n * z.cells.size ≤ cur.size) (h1 : ∀ v ∈ z.cells, v.oneCell' = true) (hzs : 0 < z.cells.size)
    (h : ∀ w', Hid (w'.heap[g]? = some (.cells (lay cur.toList off (Builtin.zeroCells z.cells n).toList).toArray tt (0, 0))) → Hid (w.grownBy w' (some g)) → wpList P ops Q rest (a.put o.dst (.tuple #[])) w') : wpList P ops Q (o :: rest) a w := by
  refine wpList_plain hgd fun K hK => ?_
  obtain ⟨w', hrun, h2, h3⟩ := run_clear_row (P := P) w t o.type elem i z ht hi hz dp n c g off cur tt hg hpos hfit h1 hzs
  unfold Oper.wp execOp
  simp only [ho, resolve, invoke, builtin, Sem.run_bind, Sem.run_pure, Result.andThen_ok, List.map_toArray, List.map_cons, List.map_nil, hd, hrun]
  exact hK _ _ (h w' h2 h3)

/-- What the own row held stays readable where it lay. -/
theorem append_olds (t ty base e : TypeId) (i : TypeInfo) (z : Value) (size bytes : Nat) (ht : P.underlying t = some (.slice e)) (hi : P.info? e = some i) (hz : i.zero = some z)
    (hsize : i.size = size) (hby : i.bytes = bytes)
    (v : Value) (n : Nat) (xs : List Value) (hown : w.ownsRow base e size v n xs) (ad : Addr) (m c : Nat) (news : List Value) (hl : news.length = m * size) (hnews : ∀ j u, news[j]? = some u → w.cell? (ad.add j) = some u)
    (h1 : ∀ u ∈ news, u.oneCell' = true) (h63 : n + m ≤ maxLen) (hbytes : (n + m) * bytes ≤ 140737488355328) {v' : Value} {w' : World} (hrun : (Builtin.append_ #[t, t] ty #[v, .slice (some ad) m c]).run P w = .ok v' w') :
    ∀ g j u, v.ownBlock = some g → xs[j]? = some u → w'.cell? ⟨g, j, none⟩ = some u := by
  subst hsize
  subst hby
  intro g j u hg hu
  have hsmall : n + m ≤ 9223372036854775807 := by simp only [maxLen] at h63; omega
  have hjl : j < n * i.size := by rw [← hown.1]; exact (List.getElem?_eq_some_iff.1 hu).1
  rcases hown.2 with ⟨rfl, rfl⟩ | ⟨g', cap, cur, rfl, hbg, hgg, hnc, hcm, hcs, htake⟩
  · simp [Value.ownBlock] at hg
  · have : g' = g := by simpa [Value.ownBlock] using hg
    subst this
    have hold : w.cell? ⟨g', j, none⟩ = some u := by
      rw [cell_of_row w g' j cur e (0, 0) hgg]
      rw [← htake, List.getElem?_take, if_pos hjl] at hu
      simpa using hu
    by_cases hroom : n + m ≤ cap
    · have hfit : n * i.size + news.length ≤ cur.size := by rw [hl, hcs, ← Nat.add_mul]; exact Nat.mul_le_mul_right _ hroom
      have hr := run_append_room (P := P) w t ty e i ht hi g' n cap cur hgg ad m c news hl hnews h1 hroom hfit
      rw [hr] at hrun
      cases hrun
      rw [cell_setRow_same w g' j cur _ e (0, 0) hgg]
      rw [← htake] at hu
      rw [List.getElem?_toArray, List.append_assoc, List.getElem?_append_left (by rw [List.length_take, Array.length_toList]; omega)]
      exact hu
    · have holds : ∀ j u, xs[j]? = some u → w.cell? ((⟨g', 0, none⟩ : Addr).add j) = some u := hown.cells (g := g') rfl
      have hr := run_append_grow (P := P) w t ty e i z ht hi hz ⟨g', 0, none⟩ n cap xs hown.1 holds ad m c news hl hnews (by omega) (by omega) (growslice_fits (by omega) hbytes)
      rw [hr] at hrun
      cases hrun
      rw [World.cell?_alloc_lt _ _ _ (by exact (Array.getElem?_eq_some_iff.1 hgg).1)]
      exact hold

/-- append(own, src...), whatever src: an own row; a source that reads. -/
theorem run_append_reads (t ty base e : TypeId) (i : TypeInfo) (z : Value) (size bytes : Nat) (ht : P.underlying t = some (.slice e)) (hi : P.info? e = some i) (hz : i.zero = some z)
    (hsize : i.size = size) (hby : i.bytes = bytes) (hzs : z.cells.size = size) (hsz : 0 < size)
    (v : Value) (n : Nat) (xs : List Value) (hown : w.ownsRow base e size v n xs) (x : Value) (m : Nat) (news : List Value) (hr : Reads w size x m news) (h1 : ∀ u ∈ news, u.oneCell' = true) (hbytes : (n + m) * bytes ≤ 140737488355328) (h63 : n + m ≤ maxLen) (hbase : base ≤ w.heap.size) :
    ∃ v' w', (Builtin.append_ #[t, t] ty #[v, x]).run P w = .ok v' w' ∧ w'.ownsRow base e size v' (n + m) (xs ++ news) ∧ w.grownBy w' v.ownBlock ∧ (v'.ownBlock = v.ownBlock ∨ v'.ownBlock = some w.heap.size) ∧ (∀ g j u, v.ownBlock = some g → xs[j]? = some u → w'.cell? ⟨g, j, none⟩ = some u) := by
  obtain ⟨hl, ⟨rfl, a, c, rfl⟩ | ⟨hp, b, off, c, rfl, hnc, hc, hb, hx⟩⟩ := hr
  · obtain rfl : news = [] := List.eq_nil_of_length_eq_zero (by simpa using hl)
    refine ⟨v, w, ?_, by simpa using hown, ⟨rfl, rfl, rfl, Nat.le_refl _, fun _ _ _ => rfl⟩, .inl rfl, fun g j u hg hu => by have := hown.cells hg j u hu; rwa [addr_add, Nat.zero_add] at this⟩
    rcases hown.2 with ⟨rfl, rfl⟩ | ⟨g, cap, cur, rfl, _, _, hnc, _⟩
    · cases a <;> simp [Builtin.append_, run_underlying ht, sizeOf, typeInfo, hi, Builtin.lenOf, Builtin.firstCells, loadCells, loadCellsFrom]
    · cases a <;> simp [Builtin.append_, run_underlying ht, sizeOf, typeInfo, hi, Builtin.lenOf, Builtin.firstCells, hnc, storeCells, loadCells, loadCellsFrom]
  · obtain ⟨v', w', h2, h3, h4, _, h5⟩ := run_append_own_at (P := P) w base t ty e i z size bytes ht hi hz hsize hby hzs hsz v n xs hown
      ⟨b, off, none⟩ m c news hl (fun j u hu => by rw [show (⟨b, off, none⟩ : Addr).add j = ⟨b, off + j, none⟩ by unfold Addr.add; split <;> simp_all]; exact hx j u hu) h1 h63 hbytes hbase
    exact ⟨v', w', h2, h3, h4, h5, append_olds w t ty base e i z size bytes ht hi hz hsize hby v n xs hown ⟨b, off, none⟩ m c news hl (fun j u hu => by rw [addr_add]; exact hx j u hu) h1 h63 hbytes h2⟩

theorem wpList_append_reads {ops : Array Oper} {rest : List Oper} {o : Oper} {a : Act} {Q : Exit → Act → World → Prop} (hgd : o.guard = none) (s x : Operand) (t : TypeId)
    (ho : o.op = .call { callee := .builtin .append, args := #[s, x], argTypes := #[t, t] })
    (base e : TypeId) (i : TypeInfo) (z : Value) (size bytes : Nat) (ht : P.underlying t = some (.slice e)) (hi : P.info? e = some i) (hz : i.zero = some z)
    (hsize : i.size = size) (hby : i.bytes = bytes) (hzs : z.cells.size = size) (hsz : 0 < size)
    (v : Value) (hs : a.eval s = v) (n : Nat) (xs : List Value) (hown : w.ownsRow base e size v n xs) (src : Value) (hx : a.eval x = src) (m : Nat) (news : List Value) (hr : Reads w size src m news) (h1 : ∀ u ∈ news, u.oneCell' = true) (hbytes : (n + m) * bytes ≤ 140737488355328) (h63 : n + m ≤ maxLen) (hbase : base ≤ w.heap.size)
    (h : ∀ a' c' w', Hid (w'.ownsRow base e size (.slice a' (n + m) c') (n + m) (xs ++ news)) → Hid (w.grownBy w' v.ownBlock) → Hid ((Value.slice a' (n + m) c').ownBlock = v.ownBlock ∨ (Value.slice a' (n + m) c').ownBlock = some w.heap.size) → Hid (∀ g j u, v.ownBlock = some g → xs[j]? = some u → w'.cell? ⟨g, j, none⟩ = some u) → wpList P ops Q rest (a.put o.dst (.slice a' (n + m) c')) w') : wpList P ops Q (o :: rest) a w := by
  refine wpList_plain hgd fun K hK => ?_
  obtain ⟨v', w', hrun, h2, h3, h4, h5⟩ := run_append_reads (P := P) w t o.type base e i z size bytes ht hi hz hsize hby hzs hsz v n xs hown src m news hr h1 hbytes h63 hbase
  obtain ⟨a', c', rfl⟩ := len_form h2
  unfold Oper.wp execOp
  simp only [ho, resolve, invoke, builtin, Sem.run_bind, Sem.run_pure, Result.andThen_ok, List.map_toArray, List.map_cons, List.map_nil, hs, hx, hrun]
  exact hK _ _ (h a' c' w' h2 h3 h4 h5)
end
end Go.Proofs.YtnjdepojmnniaaaGreatDoor

/- Bytes made a text. No program is named here. -/
namespace Go.Proofs.YtnjdepojmnniaaaGreatDoor
open Go Go.RowKit

/-- Bytes as a text. -/
def str (l : List UInt8) : ByteArray := ⟨l.toArray⟩
@[simp] theorem str_toList (l : List UInt8) : (str l).toList = l := ByteArray.toList_mk l
theorem foldl_push (l : List UInt8) : ∀ s : ByteArray, (l.map fun b => (b.toNat : Int)).foldl (fun r n => r.push (UInt8.ofNat n.toNat)) s = ⟨(s.data.toList ++ l).toArray⟩ := by
  induction l with
  | nil => intro s; simp
  | cons b l ih =>
    intro s
    simp only [List.map_cons, List.foldl_cons]
    rw [ih]
    simp [ByteArray.push]

theorem run_convert_str {P : Program} (w : World) (src dst e : TypeId) (v : Value) (bs : List UInt8) (hs : P.underlying src = some (.slice e)) (he : P.underlying e = some (.int .u8)) (hd : P.underlying dst = some .string)
    (hr : Reads w 1 v bs.length (u8s bs)) : (convert src dst v).run P w = .ok (.string (str bs)) w := by
  obtain ⟨hl, ⟨h0, a, c, rfl⟩ | ⟨hp, b, off, c, rfl, hnc, hc, hb, hx⟩⟩ := hr
  · obtain rfl : bs = [] := List.eq_nil_of_length_eq_zero h0
    rw [run_convert_bytes_string w src dst e a 0 c hs he hd]
    cases a with
    | none => rfl
    | some a =>
      rw [run_bytesToString w a 0 c [] (by simp [loadCells, loadCellsFrom])]
      rfl
  · rw [run_convert_bytes_string w src dst e _ _ c hs he hd]
    have hld : (loadCells ⟨b, off, none⟩ bs.length).run P w = .ok ((bs.map fun b => (b.toNat : Int)).map (Value.int .u8)).toArray w := by
      have := run_loadCells_list (P := P) w ⟨b, off, none⟩ (u8s bs) (fun j u hu => by rw [addr_add]; exact hx j u hu)
      rw [u8s_length] at this
      rw [this]
      simp [u8s, Function.comp_def]
    rw [run_bytesToString w _ _ c _ hld, foldl_push]
    rfl

end Go.Proofs.YtnjdepojmnniaaaGreatDoor

/- Digits: plain. -/
namespace Go.Proofs.YtnjdepojmnniaaaGreatDoor
open Go Go.RowKit

theorem dec_step (x : Nat) (h : 10 ≤ x) : Lib.decDigits x = Lib.decDigits (x / 10) ++ [UInt8.ofNat (48 + x % 10)] := by
  rw [Lib.decDigits, dif_neg (by omega)]
theorem dec_small (x : Nat) (h : x < 10) : Lib.decDigits x = [UInt8.ofNat (48 + x)] := by rw [Lib.decDigits, dif_pos h]
theorem str_cat (a b : List UInt8) : str a ++ str b = str (a ++ b) := by
  refine ByteArray.ext ?_
  rw [ByteArray.data_append]
  simp [str]
theorem dig_fin : ∀ d : Fin 10, (⟨#[48, 49, 50, 51, 52, 53, 54, 55, 56, 57]⟩ : ByteArray).extract d.val (d.val + 1) = str [UInt8.ofNat (48 + d.val)] := by decide +kernel
theorem dig_slice (d : Nat) (h : d < 10) : (⟨#[48, 49, 50, 51, 52, 53, 54, 55, 56, 57]⟩ : ByteArray).extract d (d + 1) = str [UInt8.ofNat (48 + d)] := dig_fin ⟨d, h⟩

end Go.Proofs.YtnjdepojmnniaaaGreatDoor

/- The document's reading of a number: plain. -/
namespace Go.Proofs.YtnjdepojmnniaaaGreatDoor
open Go Go.RowKit

/-- The digits of a text, read; none: it has others, or is too long. -/
def numGo : List UInt8 → Nat → Option Nat
  | [], u => some u
  | c :: r, u => if c.toNat < 48 ∨ 57 < c.toNat ∨ 1152921504606846976 < u then none else numGo r (u * 10 + (c.toNat - 48))
theorem dig_toNat (d : Nat) (h : d < 10) : (UInt8.ofNat (48 + d)).toNat = 48 + d := by
  have : ∀ d : Fin 10, (UInt8.ofNat (48 + d.val)).toNat = 48 + d.val := by decide
  exact this ⟨d, h⟩
theorem numGo_dec (m : Nat) : ∀ (r : List UInt8), m ≤ 9223372036854775808 → numGo (Lib.decDigits m ++ r) 0 = numGo r m := by
  induction m using Nat.strongRecOn with
  | _ m ih =>
    intro r hm
    by_cases h : m < 10
    · rw [dec_small m h]
      show numGo (UInt8.ofNat (48 + m) :: r) 0 = _
      unfold numGo
      rw [dig_toNat m h, if_neg (by omega)]
      rw [show 0 * 10 + (48 + m - 48) = m by omega]
      cases r <;> rfl
    · rw [dec_step m (by omega), List.append_assoc, ih (m / 10) (by omega) _ (by omega)]
      show numGo (UInt8.ofNat (48 + m % 10) :: r) (m / 10) = _
      conv => lhs; unfold numGo
      rw [dig_toNat _ (by omega), if_neg (by omega)]
      rw [show m / 10 * 10 + (48 + m % 10 - 48) = m by omega]
theorem numGo_nil (u : Nat) : numGo [] u = some u := rfl
theorem numGo_bad {c : UInt8} {r : List UInt8} {u : Nat} (h : c.toNat < 48 ∨ 57 < c.toNat ∨ 1152921504606846976 < u) : numGo (c :: r) u = none := by rw [numGo, if_pos h]
theorem numGo_ok {c : UInt8} {r : List UInt8} {u : Nat} (h : ¬ (c.toNat < 48 ∨ 57 < c.toNat ∨ 1152921504606846976 < u)) : numGo (c :: r) u = numGo r (u * 10 + (c.toNat - 48)) := by rw [numGo, if_neg h]
/-- The number that a text is written as; false: it is none. -/
def numD (l : List UInt8) : Int × Bool :=
  if l = [] ∨ l = [45] ∨ 20 < l.length then (0, false)
  else if l.head? = some 45 then match numGo (l.drop 1) 0 with
    | none => (0, false)
    | some u => if 9223372036854775808 < u then (0, false) else (-(u : Int), true)
  else match numGo l 0 with
    | none => (0, false)
    | some u => (wrap64 (u : Int), decide (u < 9223372036854775808))
theorem decDigits_ne (m : Nat) : Lib.decDigits m ≠ [] := by
  intro h
  have := Lib.decDigits_length m
  rw [h] at this
  have := Lib.nDigits_pos m
  simp at *
  omega
theorem decDigits_head (m : Nat) : ∀ c, (Lib.decDigits m).head? = some c → 48 ≤ c.toNat ∧ c.toNat ≤ 57 := by
  induction m using Nat.strongRecOn with
  | _ m ih =>
    intro c hc
    by_cases h : m < 10
    · rw [dec_small m h] at hc
      simp at hc
      rw [← hc]
      have := dig_toNat m h
      simp at this ⊢
      omega
    · rw [dec_step m (by omega)] at hc
      refine ih (m / 10) (by omega) c ?_
      rcases e : Lib.decDigits (m / 10) with _ | ⟨x, t⟩
      · exact absurd e (decDigits_ne _)
      · rw [e] at hc; exact hc
theorem nDigits_pow : ∀ (k u : Nat), u < 10 ^ (k + 1) → Lib.nDigits u ≤ k + 1
  | 0, u, h => by rw [Lib.nDigits_small (by simpa using h)]; exact Nat.le_refl _
  | k + 1, u, h => by
    by_cases hu : u < 10
    · rw [Lib.nDigits_small hu]; omega
    · rw [Lib.nDigits_big hu]
      have := nDigits_pow k (u / 10) (by rw [Nat.pow_succ] at h; omega)
      omega
theorem nDigits_le19 (u : Nat) (h : u ≤ 9223372036854775808) : Lib.nDigits u ≤ 19 := nDigits_pow 18 u (by
  have e : (10 : Nat) ^ (18 + 1) = 10000000000000000000 := by decide
  omega)
theorem numD_itoa (m : Int) (h0 : -9223372036854775808 ≤ m) (h1 : m ≤ 9223372036854775807) : numD (Lib.itoa m) = (m, true) := by
  unfold numD Lib.itoa
  by_cases hm : m < 0
  · obtain ⟨n, rfl⟩ : ∃ n : Nat, m = -(n : Int) := ⟨m.natAbs, by omega⟩
    rw [if_pos hm, Int.natAbs_neg, Int.natAbs_natCast]
    have hl := nDigits_le19 n (by omega)
    rw [← Lib.decDigits_length] at hl
    rw [if_neg (by
      rintro (h | h | h)
      · cases h
      · injection h with _ h; exact decDigits_ne n h
      · simp at h; omega), if_pos (show (45 :: Lib.decDigits n).head? = some 45 from rfl)]
    have e : (45 :: Lib.decDigits n).drop 1 = Lib.decDigits n ++ [] := by simp
    rw [e, numGo_dec n [] (by omega), numGo_nil]
    dsimp only
    rw [if_neg (by omega)]
  · obtain ⟨n, rfl⟩ : ∃ n : Nat, m = (n : Int) := ⟨m.toNat, by omega⟩
    rw [if_neg hm, Int.toNat_natCast]
    have hl := nDigits_le19 n (by omega)
    rw [← Lib.decDigits_length] at hl
    have hd := decDigits_head n
    rw [if_neg (by
      rintro (h | h | h)
      · exact decDigits_ne n h
      · rw [h] at hd; have := hd 45 rfl; revert this; decide
      · omega), if_neg (by intro h; have := hd 45 h; revert this; decide)]
    have e : Lib.decDigits n = Lib.decDigits n ++ [] := by simp
    rw [e, numGo_dec n [] (by omega), numGo_nil]
    dsimp only
    refine Prod.ext ?_ ?_
    · show wrap64 (n : Int) = _
      unfold wrap64
      omega
    · simp; omega
theorem numD_64 (l : List UInt8) : I64 (numD l).1 := by
  unfold numD
  repeat' split
  all_goals first | (constructor <;> (dsimp only; omega)) | (constructor <;> (dsimp only; unfold wrap64; omega)) | (constructor <;> simp)

theorem byte_drop (s : ByteArray) (i : Nat) (h : i < s.size) : s.data.toList.drop i = s[i]'h :: s.data.toList.drop (i + 1) := by
  have hl : i < s.data.toList.length := by rw [Array.length_toList]; exact h
  rw [List.drop_eq_getElem_cons hl]
  rfl
end Go.Proofs.YtnjdepojmnniaaaGreatDoor

/- A text between quotes: plain. -/
namespace Go.Proofs.YtnjdepojmnniaaaGreatDoor
open Go

def hexN (n : Nat) : Nat := if n < 10 then 48 + n else 87 + n
def hexD (n : Nat) : UInt8 := UInt8.ofNat (hexN n)
def ctlR (r : Nat) : Bool := decide (r < 32) || (decide (127 ≤ r) && decide (r ≤ 159))
def quoteR (r : Nat) : List UInt8 :=
  if r = 34 ∨ r = 92 then 92 :: Lib.encodeRune r else if ctlR r = true then [92, 117, 48, 48, hexD (r / 16), hexD (r % 16)] else Lib.encodeRune r
def quoteGo : Nat → List UInt8 → List UInt8
  | 0, _ => []
  | f + 1, l => if l = [] then [] else quoteR (Lib.decodeL l).1 ++ quoteGo f (l.drop (Lib.decodeL l).2)
def quoteL (l : List UInt8) : List UInt8 := 34 :: (quoteGo l.length l ++ [34])
theorem quoteGo_nil : ∀ f, quoteGo f [] = []
  | 0 => rfl
  | _ + 1 => by simp [quoteGo]
theorem quoteGo_fuel : ∀ (f g : Nat) (l : List UInt8), l.length ≤ f → l.length ≤ g → quoteGo f l = quoteGo g l
  | 0, g, l, hf, _ => by
    obtain rfl : l = [] := List.eq_nil_of_length_eq_zero (by omega)
    rw [quoteGo_nil, quoteGo_nil]
  | f + 1, 0, l, _, hg => by
    obtain rfl : l = [] := List.eq_nil_of_length_eq_zero (by omega)
    rw [quoteGo_nil, quoteGo_nil]
  | f + 1, g + 1, l, hf, hg => by
    unfold quoteGo
    by_cases hne : l = []
    · simp [hne]
    · have hw := Lib.decodeL_width l
      have hl : 0 < l.length := List.length_pos_iff.2 hne
      rw [if_neg hne, if_neg hne, quoteGo_fuel f g (l.drop (Lib.decodeL l).2) (by rw [List.length_drop]; omega) (by rw [List.length_drop]; omega)]
/-- What is written, and what is still «to» come. -/
def QAt (l acc : List UInt8) (p : Nat) : Prop := p ≤ l.length ∧ acc.length ≤ 1 + 6 * p ∧ quoteL l = acc ++ (quoteGo (l.length - p) (l.drop p) ++ [34])
theorem QAt.zero (l : List UInt8) : QAt l [34] 0 := ⟨Nat.zero_le _, by simp, by simp [quoteL]⟩
theorem quoteR_len (r : Nat) : (quoteR r).length ≤ 6 := by
  have h := Lib.runeCells_le (r : Int)
  rw [Lib.runeCells_length] at h
  unfold quoteR
  repeat' split
  · simp; omega
  · simp
  · omega
theorem QAt.next {l acc : List UInt8} {p : Nat} (h : QAt l acc p) (hp : p < l.length) : QAt l (acc ++ quoteR (Lib.decodeL (l.drop p)).1) (p + (Lib.decodeL (l.drop p)).2) := by
  obtain ⟨h1, h2, h3⟩ := h
  have hne : l.drop p ≠ [] := by simp; omega
  have hw := Lib.decodeL_width (l.drop p)
  have hle := Lib.decodeL_le (l.drop p) hne
  have hq := quoteR_len (Lib.decodeL (l.drop p)).1
  rw [List.length_drop] at hle
  refine ⟨by omega, by rw [List.length_append]; omega, ?_⟩
  obtain ⟨n, hn⟩ : ∃ n, l.length - p = n + 1 := ⟨l.length - p - 1, by omega⟩
  rw [h3, hn]
  show acc ++ ((if l.drop p = [] then [] else _) ++ [34]) = _
  rw [if_neg hne, List.drop_drop, quoteGo_fuel n (l.length - (p + (Lib.decodeL (l.drop p)).2)) _ (by rw [List.length_drop]; omega) (by rw [List.length_drop]; omega)]
  simp
theorem QAt.end_ {l acc : List UInt8} {p : Nat} (h : QAt l acc p) (hp : ¬ p < l.length) : quoteL l = acc ++ [34] := by
  obtain ⟨h1, h2, h3⟩ := h
  rw [h3]
  have e : l.length - p = 0 := by omega
  rw [e]
  rfl
theorem quoteR_sign {r : Nat} (h : r = 34 ∨ r = 92) : quoteR r = 92 :: Lib.encodeRune r := by unfold quoteR; rw [if_pos h]
theorem quoteR_ctl {r : Nat} (h : ctlR r = true) : quoteR r = [92, 117, 48, 48, hexD (r / 16), hexD (r % 16)] := by
  have h0 : ¬ (r = 34 ∨ r = 92) := by simp [ctlR] at h; omega
  unfold quoteR; rw [if_neg h0, if_pos h]
theorem quoteR_any {r : Nat} (h : ¬ (r = 34 ∨ r = 92)) (h2 : ctlR r = false) : quoteR r = Lib.encodeRune r := by
  unfold quoteR; rw [if_neg h, if_neg (by rw [h2]; simp)]

end Go.Proofs.YtnjdepojmnniaaaGreatDoor
