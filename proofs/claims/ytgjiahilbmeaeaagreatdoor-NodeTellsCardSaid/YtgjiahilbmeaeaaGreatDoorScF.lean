/- A form in memory; what is appended while it is made. -/
import Derived.Test.YtgjiahilbmeaeaaGreatDoorScE
import Derived.Test.YtgjiahilbmeaeaaGreatDoorR15
import Derived.Test.YtgjiahilbmeaeaaGreatDoorR04
import Derived.Test.YtgjiahilbmeaeaaGreatDoorR08
set_option linter.unusedSimpArgs false
set_option linter.unusedVariables false
namespace Go.Proofs.YtgjiahilbmeaeaaGreatDoor
open Go Go.RowKit
theorem Tryz.infoSf : (Tryz.prog.info? 80).map (fun i => (i.zero, i.size, i.bytes)) = some (some (.agg (blankC ⟨[], 0, [], [], []⟩).toArray), 21, 272) := by kernel_rfl
theorem wpList_appG {ops : Array Oper} {rest : List Oper} {o : Oper} {a : Act} {Q : Exit → Act → World → Prop} (w : World) (hgd : o.guard = none) (s x : Operand) (t e : TypeId) (z : Value) (size bytes : Nat) (hinf : (Tryz.prog.info? e).map (fun i => (i.zero, i.size, i.bytes)) = some (some z, size, bytes)) (hzs : z.cells.size = size) (hsz : 0 < size)
 (ho : o.op = .call { callee := .builtin .append, args := #[s, x], argTypes := #[t, t] }) (ht : Tryz.prog.underlying t = some (.slice e))
 (base : Nat) (v : Value) (hs : a.eval s = v) (n : Nat) (xs : List Value) (hown : w.ownsRow base e size v n xs) (src : Value) (hx : a.eval x = src) (news : List Value) (hr : Reads w size src 1 news) (h1 : ∀ u ∈ news, u.oneCell' = true) (hn : n ≤ 10000) (hb : bytes ≤ 1000) (hbase : base ≤ w.heap.size)
 (h : ∀ a' c' w', Hid (w'.ownsRow base e size (.slice a' (n + 1) c') (n + 1) (xs ++ news)) → Hid (Keeps (ownB v) w w') → Hid (∀ b ∈ ownB (.slice a' (n + 1) c'), b ∈ ownB v ∨ w.heap.size ≤ b) → wpList Tryz.prog ops Q rest (a.put o.dst (.slice a' (n + 1) c')) w') : wpList Tryz.prog ops Q (o :: rest) a w := by
 obtain ⟨i, hi, hz, hsize, hby⟩ := info_parts hinf
 have hbb : (n + 1) * bytes ≤ 140737488355328 := Nat.le_trans (Nat.mul_le_mul (Nat.succ_le_succ hn) hb) (by decide)
 refine wpList_append_reads w hgd s x t ho base e i z size bytes ht hi hz hsize hby hzs hsz v hs n xs hown src hx 1 news hr h1 hbb (le_maxLen (by omega)) hbase fun a' c' w' g1 g2 g3 _ => ?_
 refine h a' c' w' g1 (Keeps.ofGrown (F := ownB v) g2.out (fun k hk => by rw [mem_ownB]; exact hk)) (fun b hb => ?_)
 rw [mem_ownB] at hb ⊢
 rcases g3.out with g | g
 ·exact .inl (by rw [← g]; exact hb)
 ·rw [g] at hb
  simp at hb
  exact .inr (by omega)
theorem fldC_one (f : FldD) : ∀ u ∈ fldC f, u.oneCell' = true := by
 intro u hu
 simp [fldC] at hu
 rcases hu with rfl | rfl | rfl | rfl | rfl <;> rfl
def fldL : Lay FldD where
 size := 5
 pos := by decide
 at_ _ _ cs x := cs = fldC x
 len := fun h => by rw [h]; rfl
 one := fun h => by rw [h]; exact fldC_one _
 keep := fun h _ _ => h
 mono := fun h _ => h
def ScAt (w : World) (F : Nat → Prop) (sb : Nat) (d : SchD) : Prop :=
 ∃ lv ov bm, w.heap[sb]? = some (.cells #[lv, .map (some bm), ov] 68 (0, 0)) ∧ F sb ∧ F bm ∧ ListAt sfL w F lv d.l ∧ AtMap w bm (d.l.map (·.f.name)) ∧ Reads w 1 ov d.order.length (natC d.order) ∧ Lies F ov d.order.length
theorem ScAt.keep {G : List Nat} {w w' : World} {F : Nat → Prop} {sb : Nat} {d : SchD} (h : ScAt w F sb d) (k : Keeps G w w') (hF : ∀ b, F b → b ∉ G) : ScAt w' F sb d := by
 obtain ⟨lv, ov, bm, h1, h2, h3, h4, h5, h6, h7⟩ := h
 exact ⟨lv, ov, bm, (k.block sb (Array.getElem?_eq_some_iff.1 h1).1 (hF sb h2)).trans h1, h2, h3, h4.keep k hF, h5.keep k (hF bm h3), h6.keepsL h7 k hF, h7⟩
theorem ScAt.k {w w' : World} {F : Nat → Prop} {sb : Nat} {d : SchD} (h : ScAt w F sb d) (k : Keeps [] w w') : ScAt w' F sb d := h.keep k (fun _ _ h => by cases h)
def NwAt (w0 wr : World) (fs : List SfdD) (i : Nat) (lv nv kv : Value) : Prop :=
 wr.heap[w0.heap.size + 1]? = some (.cells #[lv, .map (some w0.heap.size), .slice none 0 0] 68 (0, 0)) ∧
 wr.ownsRow (w0.heap.size + 2) 80 21 lv i (((fs.take i).map fun x => blankC x.f).flatten) ∧
 AtMap wr w0.heap.size ((fs.map (·.f.name)).take i) ∧
 wr.ownsRow (w0.heap.size + 2) 9 1 nv i ((fs.take i).map fun x => .string (str x.f.name)) ∧
 wr.ownsRow (w0.heap.size + 2) 3 1 kv i (i64s ((fs.take i).map (·.f.typ))) ∧
 (∀ x ∈ ownB lv, x ∉ ownB nv ∧ x ∉ ownB kv) ∧ (∀ x ∈ ownB nv, x ∉ ownB kv) ∧ Keeps [] w0 wr
theorem NwAt.k {w0 w w' : World} {fs : List SfdD} {i : Nat} {lv nv kv : Value} (h : NwAt w0 w fs i lv nv kv) (k : Keeps [] w w') : NwAt w0 w' fs i lv nv kv := by
 obtain ⟨h1, h2, h3, h4, h5, h6, h7, h8⟩ := h
 exact ⟨(k.block _ (Array.getElem?_eq_some_iff.1 h1).1 (by simp)).trans h1, ownsRow_keeps h2 k (fun _ _ h => by cases h), h3.keep k (by simp), ownsRow_keeps h4 k (fun _ _ h => by cases h), ownsRow_keeps h5 k (fun _ _ h => by cases h), h6, h7, h8.trans k (fun _ _ h => h)⟩
end Go.Proofs.YtgjiahilbmeaeaaGreatDoor