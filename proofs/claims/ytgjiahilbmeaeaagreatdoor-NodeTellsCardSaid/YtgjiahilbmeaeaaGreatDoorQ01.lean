/- Joined of Lays, U8, Place, CoreD. -/
import Derived.Test.YtgjiahilbmeaeaaGreatDoorQ00
import Derived.Test.YtgjiahilbmeaeaaGreatDoorRows
import Derived.WalkKit
set_option maxHeartbeats 400000
set_option linter.unusedSimpArgs false
set_option linter.unusedVariables false
/- HOW DATA LIE IN MEMORY, told once for each type: numbers, truths, bytes, lists of whatever lies; what may be read, what the call owns. No program is named here. -/
namespace Go.Proofs.YtgjiahilbmeaeaaGreatDoor
open Go Go.RowKit
structure Lay (α : Type) where
 size : Nat
 pos : 0 < size
 at_ : World → (Nat → Prop) → List Value → α → Prop
 len : ∀ {w : World} {P : Nat → Prop} {cs : List Value} {a : α}, at_ w P cs a → cs.length = size
 one : ∀ {w : World} {P : Nat → Prop} {cs : List Value} {a : α}, at_ w P cs a → ∀ u ∈ cs, u.oneCell' = true
 keep : ∀ {w w' : World} {G : List Nat} {P : Nat → Prop} {cs : List Value} {a : α}, at_ w P cs a → Keeps G w w' → (∀ b, P b → b ∉ G) → at_ w' P cs a
 mono : ∀ {w : World} {P P' : Nat → Prop} {cs : List Value} {a : α}, at_ w P cs a → (∀ b, b < w.heap.size → P b → P' b) → at_ w P' cs a
def Lies (P : Nat → Prop) (v : Value) (n : Nat) : Prop := n ≠ 0 → ∀ b ∈ ownB v, P b
theorem Reads.keepsL {G : List Nat} {w w' : World} {size n : Nat} {v : Value} {xs : List Value} {P : Nat → Prop} (h : Reads w size v n xs) (hl : Lies P v n) (k : Keeps G w w') (hP : ∀ b, P b → b ∉ G) : Reads w' size v n xs := by
 rcases Nat.eq_zero_or_pos n with rfl | hp
 ·obtain ⟨h1, h | ⟨hp, _⟩⟩ := h
  ·exact ⟨h1, .inl h⟩
  ·omega
 ·exact h.keeps k (fun b hb => hP b (hl (by omega) b hb))
theorem Reads.lt {w : World} {size n : Nat} {v : Value} {xs : List Value} (h : Reads w size v n xs) (hn : n ≠ 0) : ∀ b ∈ ownB v, b < w.heap.size := by
 intro b hb
 rcases h.2 with ⟨h0, _⟩ | ⟨_, b', off, c, rfl, _, _, hl, _⟩
 ·exact absurd h0 hn
 ·simp [mem_ownB, Value.ownBlock] at hb
  omega
theorem Lies.mono {P P' : Nat → Prop} {w : World} {size n : Nat} {v : Value} {xs : List Value} (h : Lies P v n) (hr : Reads w size v n xs) (hP : ∀ b, b < w.heap.size → P b → P' b) : Lies P' v n :=
 fun hn b hb => hP b (hr.lt hn b hb) (h hn b hb)
theorem Reads.form {w : World} {size n : Nat} {v : Value} {xs : List Value} (h : Reads w size v n xs) : ∃ a c, v = .slice a n c := by
 rcases h.2 with ⟨h0, a, c, rfl⟩ | ⟨_, b, off, c, rfl, _⟩
 ·exact ⟨a, c, by rw [h0]⟩
 ·exact ⟨_, _, rfl⟩
def BytesAt (w : World) (P : Nat → Prop) (v : Value) (bs : List UInt8) : Prop := Reads w 1 v bs.length (u8s bs) ∧ Lies P v bs.length
theorem BytesAt.keep {G : List Nat} {w w' : World} {v : Value} {P : Nat → Prop} {bs : List UInt8} (h : BytesAt w P v bs) (k : Keeps G w w') (hP : ∀ b, P b → b ∉ G) : BytesAt w' P v bs := ⟨h.1.keepsL h.2 k hP, h.2⟩
theorem BytesAt.k {w w' : World} {v : Value} {P : Nat → Prop} {bs : List UInt8} (h : BytesAt w P v bs) (k : Keeps [] w w') : BytesAt w' P v bs := h.keep k (fun _ _ h => by cases h)
theorem BytesAt.mono {w : World} {v : Value} {P P' : Nat → Prop} {bs : List UInt8} (h : BytesAt w P v bs) (hP : ∀ b, b < w.heap.size → P b → P' b) : BytesAt w P' v bs := ⟨h.1, h.2.mono h.1 hP⟩
theorem BytesAt.form {w : World} {v : Value} {P : Nat → Prop} {bs : List UInt8} (h : BytesAt w P v bs) : ∃ a c, v = .slice a bs.length c := h.1.form
theorem BytesAt.nil (w : World) (P : Nat → Prop) (a : Option Addr) (c : Nat) : BytesAt w P (.slice a 0 c) [] := ⟨⟨rfl, .inl ⟨rfl, _, _, rfl⟩⟩, fun h => absurd rfl h⟩
theorem BytesAt.ofOwn {w : World} {base e : Nat} {v : Value} {P : Nat → Prop} {bs : List UInt8} {n : Nat} (h : w.ownsRow base e 1 v n (u8s bs)) (hn : n = bs.length) (hP : ∀ b, base ≤ b → b < w.heap.size → P b) : BytesAt w P v bs := by
 subst hn
 exact ⟨Reads.ofOwn h, fun _ b hb => hP b (ownB_ge h b hb).1 (ownB_ge h b hb).2⟩
section
variable {α : Type} (L : Lay α)
def ElemsAt (w : World) (P : Nat → Prop) (css : List (List Value)) (l : List α) : Prop := css.length = l.length ∧ ∀ (i : Nat) (cs : List Value) (a : α), css[i]? = some cs → l[i]? = some a → L.at_ w P cs a
variable {L}
theorem ElemsAt.keep {G : List Nat} {w w' : World} {P : Nat → Prop} {css : List (List Value)} {l : List α} (h : ElemsAt L w P css l) (k : Keeps G w w') (hP : ∀ b, P b → b ∉ G) : ElemsAt L w' P css l := ⟨h.1, fun i cs a h1 h2 => L.keep (h.2 i cs a h1 h2) k hP⟩
theorem ElemsAt.mono {w : World} {P P' : Nat → Prop} {css : List (List Value)} {l : List α} (h : ElemsAt L w P css l) (hP : ∀ b, b < w.heap.size → P b → P' b) : ElemsAt L w P' css l := ⟨h.1, fun i cs a h1 h2 => L.mono (h.2 i cs a h1 h2) hP⟩
theorem ElemsAt.nil (w : World) (P : Nat → Prop) : ElemsAt L w P [] [] := ⟨rfl, fun i cs a h => by simp at h⟩
theorem ElemsAt.snoc {w : World} {P : Nat → Prop} {css : List (List Value)} {l : List α} {cs : List Value} {a : α} (h : ElemsAt L w P css l) (h1 : L.at_ w P cs a) : ElemsAt L w P (css ++ [cs]) (l ++ [a]) := by
 refine ⟨by simp [h.1], fun i cs' a' hc ha => ?_⟩
 rw [List.getElem?_append] at hc ha
 rw [h.1] at hc
 split at hc <;> split at ha
 ·exact h.2 i _ _ hc ha
 ·omega
 ·omega
 ·have e : i - l.length = 0 := by
   have := (List.getElem?_eq_some_iff.1 hc).1
   simp at this
   omega
  rw [e] at hc ha
  simp at hc ha
  subst hc ha
  exact h1
theorem ElemsAt.append {w : World} {P : Nat → Prop} {css css2 : List (List Value)} {l l2 : List α} (h : ElemsAt L w P css l) (h2 : ElemsAt L w P css2 l2) : ElemsAt L w P (css ++ css2) (l ++ l2) := by
 refine ⟨by simp [h.1, h2.1], fun i cs' a' hc ha => ?_⟩
 rw [List.getElem?_append] at hc ha
 rw [h.1] at hc
 split at hc <;> split at ha
 ·exact h.2 i _ _ hc ha
 ·omega
 ·omega
 ·exact h2.2 _ _ _ hc ha
theorem ElemsAt.lens {w : World} {P : Nat → Prop} {css : List (List Value)} {l : List α} (h : ElemsAt L w P css l) : ∀ cs ∈ css, cs.length = L.size := by
 intro cs hc
 obtain ⟨i, hi, rfl⟩ := List.mem_iff_getElem.1 hc
 exact L.len (h.2 i _ _ (List.getElem?_eq_getElem hi) (List.getElem?_eq_getElem (by rw [← h.1]; exact hi)))
theorem ElemsAt.one {w : World} {P : Nat → Prop} {css : List (List Value)} {l : List α} (h : ElemsAt L w P css l) : ∀ u ∈ css.flatten, u.oneCell' = true := by
 intro u hu
 obtain ⟨cs, hc, hu⟩ := List.mem_flatten.1 hu
 obtain ⟨i, hi, rfl⟩ := List.mem_iff_getElem.1 hc
 exact L.one (h.2 i _ _ (List.getElem?_eq_getElem hi) (List.getElem?_eq_getElem (by rw [← h.1]; exact hi))) u hu
theorem flatten_length {css : List (List Value)} {n : Nat} (h : ∀ cs ∈ css, cs.length = n) : css.flatten.length = css.length * n := by
 induction css with
 | nil => simp
 | cons c r ih =>
   rw [List.flatten_cons, List.length_append, ih (fun x hx => h x (List.mem_cons_of_mem _ hx)), h c (by simp), List.length_cons, Nat.add_mul]
   omega
theorem flatten_get {n : Nat} : ∀ {css : List (List Value)} (_ : ∀ cs ∈ css, cs.length = n) {i j : Nat} {cs : List Value} (_ : css[i]? = some cs) (_ : j < n), css.flatten[i * n + j]? = cs[j]?
 | [], _, i, j, cs, h, _ => by simp at h
 | c :: r, hl, 0, j, cs, h, hj => by
   simp at h
   subst h
   have := hl c (by simp)
   rw [List.flatten_cons, List.getElem?_append_left (by omega)]
   simp
 | c :: r, hl, i + 1, j, cs, h, hj => by
   have hc := hl c (by simp)
   have h1 : (i + 1) * n + j - c.length = i * n + j := by rw [hc, Nat.add_mul]; omega
   rw [List.flatten_cons, List.getElem?_append_right (by rw [hc, Nat.add_mul]; omega), h1]
   exact flatten_get (fun x hx => hl x (List.mem_cons_of_mem _ hx)) (by simpa using h) hj
variable (L)
def ListAt (w : World) (P : Nat → Prop) (v : Value) (l : List α) : Prop := ∃ css, ElemsAt L w P css l ∧ Reads w L.size v l.length css.flatten ∧ Lies P v l.length
def OwnAt (et : TypeId) (w : World) (base : Nat) (P : Nat → Prop) (v : Value) (l : List α) : Prop := ∃ css, ElemsAt L w P css l ∧ w.ownsRow base et L.size v l.length css.flatten
variable {L}
theorem ListAt.keep {G : List Nat} {w w' : World} {P : Nat → Prop} {v : Value} {l : List α} (h : ListAt L w P v l) (k : Keeps G w w') (hP : ∀ b, P b → b ∉ G) : ListAt L w' P v l := by
 obtain ⟨css, h1, h2, h3⟩ := h
 exact ⟨css, h1.keep k hP, h2.keepsL h3 k hP, h3⟩
theorem ListAt.k {w w' : World} {P : Nat → Prop} {v : Value} {l : List α} (h : ListAt L w P v l) (k : Keeps [] w w') : ListAt L w' P v l := h.keep k (fun _ _ h => by cases h)
theorem ListAt.mono {w : World} {P P' : Nat → Prop} {v : Value} {l : List α} (h : ListAt L w P v l) (hP : ∀ b, b < w.heap.size → P b → P' b) : ListAt L w P' v l := by
 obtain ⟨css, h1, h2, h3⟩ := h
 exact ⟨css, h1.mono hP, h2, h3.mono h2 hP⟩
theorem ListAt.form {w : World} {P : Nat → Prop} {v : Value} {l : List α} (h : ListAt L w P v l) : ∃ a c, v = .slice a l.length c := by
 obtain ⟨css, _, h2, _⟩ := h
 exact h2.form
theorem ListAt.nil (w : World) (P : Nat → Prop) (a : Option Addr) (c : Nat) : ListAt L w P (.slice a 0 c) [] := ⟨[], ElemsAt.nil w P, ⟨by simp, .inl ⟨rfl, _, _, rfl⟩⟩, fun h => absurd rfl h⟩
theorem ListAt.addr {w : World} {P : Nat → Prop} {v : Value} {l : List α} (h : ListAt L w P v l) (hn : l ≠ []) : ∃ b off c, v = .slice (some ⟨b, off, none⟩) l.length c ∧ l.length ≤ c ∧ c ≤ maxLen ∧ b < w.heap.size ∧ P b := by
 obtain ⟨css, _, h2, h3⟩ := h
 have hl : l.length ≠ 0 := fun e => hn (List.eq_nil_of_length_eq_zero e)
 rcases h2.2 with ⟨h0, _⟩ | ⟨_, b, off, c, rfl, h4, h5, h6, _⟩
 ·exact absurd h0 hl
 ·exact ⟨b, off, c, rfl, h4, h5, h6, h3 hl b (by simp [mem_ownB, Value.ownBlock])⟩
theorem ListAt.get {w : World} {P : Nat → Prop} {b off n c : Nat} {l : List α} (h : ListAt L w P (.slice (some ⟨b, off, none⟩) n c) l) {i : Nat} {a : α} (ha : l[i]? = some a) :
 ∃ cs, L.at_ w P cs a ∧ ∀ j u, cs[j]? = some u → w.cell? ⟨b, off + i * L.size + j, none⟩ = some u := by
 obtain ⟨css, h1, h2, _⟩ := h
 have hi : i < l.length := (List.getElem?_eq_some_iff.1 ha).1
 have hc : css[i]? = some (css[i]'(by rw [h1.1]; exact hi)) := List.getElem?_eq_getElem _
 refine ⟨_, h1.2 i _ _ hc ha, fun j u hu => ?_⟩
 have hj : j < L.size := by
  have := (List.getElem?_eq_some_iff.1 hu).1
  rwa [L.len (h1.2 i _ _ hc ha)] at this
 rcases h2.2 with ⟨h0, _⟩ | ⟨_, b', off', c', e, _, _, _, hx⟩
 ·omega
 ·simp at e
  obtain ⟨⟨rfl, rfl⟩, _⟩ := e
  have := hx (i * L.size + j) u (by rw [flatten_get h1.lens hc hj]; exact hu)
  rw [← Nat.add_assoc] at this
  exact this
theorem OwnAt.nil (et : TypeId) (w : World) (base : Nat) (P : Nat → Prop) : OwnAt L et w base P (.slice none 0 0) [] := ⟨[], ElemsAt.nil w P, World.ownsRow_nil w base et L.size⟩
theorem OwnAt.form {et : TypeId} {w : World} {base : Nat} {P : Nat → Prop} {v : Value} {l : List α} (h : OwnAt L et w base P v l) : ∃ a c, v = .slice a l.length c := by
 obtain ⟨css, _, h2⟩ := h
 exact len_form h2
theorem OwnAt.list {et : TypeId} {w : World} {base : Nat} {P P' : Nat → Prop} {v : Value} {l : List α} (h : OwnAt L et w base P v l) (hP : ∀ b, b < w.heap.size → P b → P' b) (hv : ∀ b ∈ ownB v, P' b) : ListAt L w P' v l := by
 obtain ⟨css, h1, h2⟩ := h
 exact ⟨css, h1.mono hP, Reads.ofOwn h2, fun _ => hv⟩
theorem OwnAt.ge {et : TypeId} {w : World} {base : Nat} {P : Nat → Prop} {v : Value} {l : List α} (h : OwnAt L et w base P v l) : ∀ b ∈ ownB v, base ≤ b ∧ b < w.heap.size := by
 obtain ⟨css, _, h2⟩ := h
 exact ownB_ge h2
theorem OwnAt.keep {G : List Nat} {et : TypeId} {w w' : World} {base : Nat} {P : Nat → Prop} {v : Value} {l : List α} (h : OwnAt L et w base P v l) (k : Keeps G w w') (hv : ∀ b ∈ ownB v, b ∉ G) (hP : ∀ b, P b → b ∉ G) : OwnAt L et w' base P v l := by
 obtain ⟨css, h1, h2⟩ := h
 exact ⟨css, h1.keep k hP, ownsRow_keeps h2 k hv⟩
theorem OwnAt.k {et : TypeId} {w w' : World} {base : Nat} {P : Nat → Prop} {v : Value} {l : List α} (h : OwnAt L et w base P v l) (k : Keeps [] w w') : OwnAt L et w' base P v l := h.keep k (fun _ _ h => by cases h) (fun _ _ h => by cases h)
theorem OwnAt.mono {et : TypeId} {w : World} {base : Nat} {P P' : Nat → Prop} {v : Value} {l : List α} (h : OwnAt L et w base P v l) (hP : ∀ b, b < w.heap.size → P b → P' b) : OwnAt L et w base P' v l := by
 obtain ⟨css, h1, h2⟩ := h
 exact ⟨css, h1.mono hP, h2⟩
theorem OwnAt.base {et : TypeId} {w : World} {base base' : Nat} {P : Nat → Prop} {v : Value} {l : List α} (h : OwnAt L et w base P v l) (hb : base' ≤ base) : OwnAt L et w base' P v l := by
 obtain ⟨css, h1, h2⟩ := h
 exact ⟨css, h1, ownsRow_base h2 hb⟩
end
section
variable {α : Type} {L : Lay α} {P : Program} {ops : Array Oper} {rest : List Oper} {o : Oper} {a : Act} {Q : Exit → Act → World → Prop} (w : World)
theorem wpList_append_lay (hgd : o.guard = none) (s x : Operand) (t : TypeId)
 (ho : o.op = .call { callee := .builtin .append, args := #[s, x], argTypes := #[t, t] })
 (base e : TypeId) (i : TypeInfo) (z : Value) (bytes : Nat) (ht : P.underlying t = some (.slice e)) (hi : P.info? e = some i) (hz : i.zero = some z)
 (hsize : i.size = L.size) (hby : i.bytes = bytes) (hzs : z.cells.size = L.size)
 {PA PB PC : Nat → Prop} (v : Value) (hs : a.eval s = v) (l l2 : List α) (css2 : List (List Value)) (hown : OwnAt L e w base PA v l) (src : Value) (hx : a.eval x = src) (n2 : Nat) (hn2 : l2.length = n2) (h3 : ElemsAt L w PB css2 l2) (h4 : Reads w L.size src n2 css2.flatten) (hbytes : (l.length + n2) * bytes ≤ 140737488355328) (h63 : l.length + n2 ≤ maxLen) (hbase : base ≤ w.heap.size)
 (hA : ∀ b, b < w.heap.size → PA b → PC b) (hB : ∀ b, b < w.heap.size → PB b → PC b) (hC : ∀ b, PC b → b ∉ ownB v)
 (h : ∀ a' c' w', Hid (OwnAt L e w' base PC (.slice a' (l.length + n2) c') (l ++ l2)) → Hid (Keeps (ownB v) w w') → Hid ((Value.slice a' (l.length + n2) c').ownBlock = v.ownBlock ∨ (Value.slice a' (l.length + n2) c').ownBlock = some w.heap.size) → wpList P ops Q rest (a.put o.dst (.slice a' (l.length + n2) c')) w') : wpList P ops Q (o :: rest) a w := by
 subst hn2
 obtain ⟨css, h1, h2⟩ := hown
 refine wpList_append_reads w hgd s x t ho base e i z L.size bytes ht hi hz hsize hby hzs L.pos v hs l.length css.flatten h2 src hx l2.length css2.flatten h4 h3.one hbytes h63 hbase fun a' c' w' g1 g2 g3 g4 => ?_
 have k : Keeps (ownB v) w w' := Keeps.ofGrown g2.out (fun k h => mem_ownB.2 h)
 refine h a' c' w' ⟨css ++ css2, ((h1.mono hA).keep k hC).append ((h3.mono hB).keep k hC), ?_⟩ k g3
 have := g1.out
 rwa [List.length_append, List.flatten_append]
end
theorem wpList_append_off {α : Type} {L : Lay α} {P : Program} {ops : Array Oper} {rest : List Oper} {o : Oper} {a : Act} {Q : Exit → Act → World → Prop} (w : World) (hgd : o.guard = none) (s x : Operand) (t : TypeId)
 (ho : o.op = .call { callee := .builtin .append, args := #[s, x], argTypes := #[t, t] })
 (base e : TypeId) (i : TypeInfo) (z : Value) (bytes : Nat) (ht : P.underlying t = some (.slice e)) (hi : P.info? e = some i) (hz : i.zero = some z)
 (hsize : i.size = L.size) (hby : i.bytes = bytes) (hzs : z.cells.size = L.size)
 {R PB : Nat → Prop} (v : Value) (hs : a.eval s = v) (l l2 : List α) (n1 : Nat) (hn1 : l.length = n1) (css2 : List (List Value)) (hown : OwnAt L e w base (fun b => R b ∧ b ∉ ownB v) v l) (src : Value) (hx : a.eval x = src) (n2 : Nat) (hn2 : l2.length = n2) (h3 : ElemsAt L w PB css2 l2) (h4 : Reads w L.size src n2 css2.flatten) (hbytes : (n1 + n2) * bytes ≤ 140737488355328) (h63 : n1 + n2 ≤ maxLen) (hbase : base ≤ w.heap.size)
 (hB : ∀ b, b < w.heap.size → PB b → R b ∧ b ∉ ownB v)
 (h : ∀ a' c' w', Hid (OwnAt L e w' base (fun b => R b ∧ b ∉ ownB (.slice a' (n1 + n2) c')) (.slice a' (n1 + n2) c') (l ++ l2)) → Hid (Keeps (ownB v) w w') → Hid (∀ b ∈ ownB (.slice a' (n1 + n2) c'), b ∈ ownB v ∨ w.heap.size ≤ b) → wpList P ops Q rest (a.put o.dst (.slice a' (n1 + n2) c')) w') : wpList P ops Q (o :: rest) a w := by
 subst hn1
 refine wpList_append_lay w hgd s x t ho base e i z bytes ht hi hz hsize hby hzs (PC := fun b => (R b ∧ b ∉ ownB v) ∧ b < w.heap.size) v hs l l2 css2 hown src hx n2 hn2 h3 h4 hbytes h63 hbase (fun b h1 h2 => ⟨h2, h1⟩) (fun b h1 h2 => ⟨hB b h1 h2, h1⟩) (fun b h => h.1.2) fun a' c' w' g1 g2 g3 => ?_
 have hv : ∀ b ∈ ownB (.slice a' (l.length + n2) c'), b ∈ ownB v ∨ w.heap.size ≤ b := fun b hb => by
  rw [mem_ownB] at hb ⊢
  rcases g3.out with g | g
  ·exact .inl (by rw [← g]; exact hb)
  ·rw [g] at hb
   simp at hb
   omega
 refine h a' c' w' (OwnAt.mono g1.out fun b _ hb => ⟨hb.1.1, fun hb' => ?_⟩) g2 hv
 rcases hv b hb' with h | h
 ·exact hb.1.2 h
 ·omega
theorem ElemsAt.one1 {α : Type} {L : Lay α} {w : World} {P : Nat → Prop} {cs : List Value} {a : α} (h : L.at_ w P cs a) : ElemsAt L w P [cs] [a] := by
 have := (ElemsAt.nil (L := L) w P).snoc h
 simpa using this
theorem Reads.one1 {w : World} {B n : Nat} {cs : Array Value} {t : TypeId} {fr : Nat × Nat} (hb : w.heap[B]? = some (.cells cs t fr)) (hs : cs.size = n) : Reads w n (.slice (some ⟨B, 0, none⟩) 1 1) 1 [cs.toList].flatten := by
 have := Reads.ofBlock (n := 1) (size := n) hb (by omega) (by unfold maxLen; omega)
 simpa using this
theorem Tryz.infoU8 : (Tryz.prog.info? 5).map (fun i => (i.zero, i.size, i.bytes)) = some (some (.int .u8 0), 1, 1) := by kernel_rfl
def placeOf (v n : Int) : Int := if v.tmod n < 0 then v.tmod n + n else v.tmod n
theorem placeOf_bd (v n : Int) (h : 0 < n) : 0 ≤ placeOf v n ∧ placeOf v n < n := by
 have a1 : v.tmod n < n := Int.tmod_lt_of_pos v h
 have a2 := Int.lt_tmod_of_pos v h
 unfold placeOf
 split <;> omega
theorem place_any (v n : Int) (w : World) (h0 : 0 < n) (h1 : n ≤ 1000000000) (_wv : (Lit.int .i64 v).wf = true) :
 Calls Tryz.prog 5 #[.int .i64 v, .int .i64 n] w fun e w' => e = .returned (.int .i64 (placeOf v n)) ∧ w' = w := by
 have hn : n ≠ 0 := by omega
 have a1 : v.tmod n < n := Int.tmod_lt_of_pos v h0
 have a2 : -n < v.tmod n := by have := Int.lt_tmod_of_pos v h0; omega
 by_cases hc : v.tmod n < 0
 ·go_enter Tryz.func5, Tryz.ntmps5
  go_wp2
  go_ret
  exact ⟨by simp [placeOf, hc], rfl⟩
 ·go_enter Tryz.func5, Tryz.ntmps5
  go_wp2
  go_ret
  have e : placeOf v n = v.tmod n := by rw [placeOf, if_neg (by omega)]
  exact ⟨by rw [e]; rfl, rfl⟩
theorem place_is (p v n : Int) (w : World) (h0 : 0 < n) (h1 : n ≤ 1000000000) (wv : (Lit.int .i64 v).wf = true) (hp : placeOf v n = p) :
 Calls Tryz.prog 5 #[.int .i64 v, .int .i64 n] w fun e w' => e = .returned (.int .i64 p) ∧ w' = w := by rw [← hp]; exact place_any v n w h0 h1 wv
def Copied (bs : List UInt8) (w : World) (e : Ending) (w' : World) : Prop := ∃ a c, e = .returned (.slice a bs.length c) ∧ w'.ownsRow w.heap.size 5 1 (.slice a bs.length c) bs.length (u8s bs) ∧ Keeps [] w w'
theorem listB_any (v : Value) (bs : List UInt8) (w : World) (hr : Reads w 1 v bs.length (u8s bs)) (hb : bs.length ≤ 140737488355328) : Calls Tryz.prog 107 #[v] w (Copied bs w) := by
 obtain ⟨i0, hi, hz0, hz1, hz2⟩ := info_parts Tryz.infoU8
 go_enter Tryz.func107, Tryz.ntmps107
 go_wp2_with (at_builtin; refine wpList_append_copy _ rfl (.tmp 3) 27 rfl 5 i0 (.int .u8 0) 1 1 Tryz.underlying27 hi hz0 hz1 hz2 rfl (by decide) v bs.length (u8s bs) rfl hr (u8s_one bs) (by omega) (le_maxLen (by omega)) ?_)
 intro v' w' h1 h2
 obtain ⟨a, c, hv⟩ := len_form h1
 have H := hid hv
 clear hv
 go_wp2
 go_ret
 exact ⟨a, c, congrArg Ending.returned H.out, by rw [← H.out]; exact h1, Keeps.ofGrown h2 (fun _ h => by cases h)⟩
structure Ent where
 term : Int
 cmd : Bool
 data : List UInt8
structure MsgD where
 kind : Int
 frm : Int
 «to» : Int
 term : Int
 a : Int
 b : Int
 c : Int
 ok : Bool
 entries : List Ent
 data : List UInt8
structure ConfD where
 nodes : Int
 clients : Int
 heart : Int
 lo : Int
 range : Int
 sessions : Int
 snap : Int
 room : Int
 retry : Int
structure CoreD where
 conf : ConfD
 id : Int
 term : Int
 vote : Int
 role : Int
 leader : Int
 commit : Int
 base : Int
 baseTerm : Int
 l : List Ent
 snap : List UInt8
 draw : Int
 patience : Int
 votes : List Bool
 next : List Int
 matc : List Int
 hard : Bool
 frm : Int
 tsnap : Bool
 /-- Blocks that it never reads nor writes: others write there. (No part of the core: a word of the proofs.) -/
 ban : Nat → Prop := fun _ => False
def inD (v a b : Int) : Bool := decide (a ≤ v) && decide (v ≤ b)
def ConfD.row (c : ConfD) : Nat → Int × Int × Int
 | 0 => (c.nodes, 3, 7)
 | 1 => (c.clients, 0, 8)
 | 2 => (c.heart, 1, 100)
 | 3 => (c.lo, c.heart + 1, 1000)
 | 4 => (c.range, 0, 1000)
 | 5 => (c.sessions, 1, 16)
 | 6 => (c.snap, 1, 1000)
 | 7 => (c.room, 0, 512)
 | _ => (c.retry, 1, 1000)
def ConfD.ok (c : ConfD) (k : Nat) : Bool := inD (c.row k).1 (c.row k).2.1 (c.row k).2.2
def ConfD.mayTo (c : ConfD) : Nat → Bool
 | 0 => true
 | k + 1 => c.mayTo k && c.ok k
def ConfD.may (c : ConfD) : Bool := c.mayTo 9
theorem ConfD.may_iff (c : ConfD) : c.may = true ↔ (3 ≤ c.nodes ∧ c.nodes ≤ 7) ∧ (0 ≤ c.clients ∧ c.clients ≤ 8) ∧ (1 ≤ c.heart ∧ c.heart ≤ 100) ∧ (c.heart + 1 ≤ c.lo ∧ c.lo ≤ 1000) ∧ (0 ≤ c.range ∧ c.range ≤ 1000) ∧ (1 ≤ c.sessions ∧ c.sessions ≤ 16) ∧ (1 ≤ c.snap ∧ c.snap ≤ 1000) ∧ (0 ≤ c.room ∧ c.room ≤ 512) ∧ (1 ≤ c.retry ∧ c.retry ≤ 1000) := by
 simp [ConfD.may, ConfD.mayTo, ConfD.ok, ConfD.row, inD, and_assoc]
theorem ConfD.mayTo_mono (c : ConfD) (k : Nat) : ∀ j, c.mayTo (k + j) = true → c.mayTo k = true
 | 0, h => h
 | j + 1, h => by
   simp only [ConfD.mayTo, Bool.and_eq_true] at h
   exact c.mayTo_mono k j h.1
theorem ConfD.not_may {c : ConfD} {k : Nat} (hk : k < 9) (h : c.ok k = false) : c.may = false := by
 cases hm : c.may with
 | false => rfl
 | true =>
   have := c.mayTo_mono (k + 1) (9 - (k + 1)) (by rw [show k + 1 + (9 - (k + 1)) = 9 by omega]; exact hm)
   simp [ConfD.mayTo, h] at this
def lastD (c : CoreD) : Int := c.base + c.l.length
def atD (c : CoreD) (i : Int) : Int × Bool :=
 if i = c.base then (c.baseTerm, true) else if i < c.base ∨ lastD c < i then (0, false) else (((c.l[(i - c.base - 1).toNat]?).map (·.term)).getD 0, true)
def fromD (c : CoreD) (i : Int) : List Ent := c.l.drop (max i (c.base + 1) - c.base - 1).toNat
def newD (cf : ConfD) (id term vote base baseTerm : Int) (l : List Ent) : CoreD :=
 { conf := cf, id := id, term := term, vote := vote, role := 0, leader := 0, commit := base, base := base, baseTerm := baseTerm, l := l, snap := [], draw := min ((id - 1) * (cf.heart + 6)) cf.range, patience := 0,
   votes := List.replicate 8 false, next := List.replicate 8 0, matc := List.replicate 8 0, hard := false, frm := 0, tsnap := false }
def mayNewD (cf : ConfD) (id term vote base baseTerm : Int) (l : List Ent) : Bool :=
 cf.may && inD id 1 cf.nodes && inD term 0 1099511627776 && inD vote 0 cf.nodes && inD base 0 1099511622680 && inD baseTerm 0 1099511627776 && decide (l.length ≤ 5096) && l.all fun e => inD e.term 1 1099511627776
def risesD (c : CoreD) (term vote : Int) : CoreD := { c with hard := c.hard || term != c.term || vote != c.vote, term := term, vote := vote }
def turnD (c : CoreD) (i : Int) : CoreD := { c with frm := if c.frm = 0 ∨ i < c.frm then i else c.frm }
def putD (c : CoreD) (e : Ent) : CoreD := turnD { c with l := c.l ++ [e] } (lastD c + 1)
def saysD (c : CoreD) (m : MsgD) («to» : Int) : MsgD := { m with frm := c.id, «to» := «to», term := c.term }
def msg0 : MsgD := { kind := 0, frm := 0, «to» := 0, term := 0, a := 0, b := 0, c := 0, ok := false, entries := [], data := [] }
def sendD (c : CoreD) («to» : Int) : MsgD :=
 let next := c.next.getD «to».toNat 0
 if next ≤ c.base then saysD c { msg0 with kind := 5, a := c.base, b := c.baseTerm, data := c.snap } «to»
 else saysD c { msg0 with kind := 3, a := next - 1, b := (atD c (next - 1)).1, c := c.commit, entries := (fromD c next).take 8 } «to»
def othersTo (id : Int) : Nat → List Int
 | 0 => []
 | k + 1 => if ((k + 1 : Nat) : Int) = id then othersTo id k else othersTo id k ++ [((k + 1 : Nat) : Int)]
def othersD (c : CoreD) (f : Int → MsgD) : List MsgD := (othersTo c.id c.conf.nodes.toNat).map f
structure CoreOk (c : CoreD) : Prop where
 may : c.conf.may = true
 id : 1 ≤ c.id ∧ c.id ≤ c.conf.nodes
 term : 0 ≤ c.term ∧ c.term ≤ 1099511627776
 base : 0 ≤ c.base ∧ c.base ≤ c.commit
 baseTerm : 0 ≤ c.baseTerm ∧ c.baseTerm ≤ 1099511627776
 len : c.l.length ≤ 5096
 last : c.base + c.l.length ≤ 2199023255552
 commit : c.commit ≤ c.base + c.l.length
 draw : 0 ≤ c.draw ∧ c.draw ≤ 1000
 votes : c.votes.length = 8
 next : c.next.length = 8
 matc : c.matc.length = 8
 nexts : ∀ x ∈ c.next, 0 ≤ x ∧ x ≤ 2199023255553
 matcs : ∀ x ∈ c.matc, 0 ≤ x ∧ x ≤ 2199023255552
 ents : ∀ e ∈ c.l, 0 ≤ e.term ∧ e.term ≤ 1099511627776
 frm : 0 ≤ c.frm ∧ c.frm ≤ 2199023255553
 data : ∀ e ∈ c.l, e.data.length ≤ 1000000
 snap : c.snap.length ≤ 1000000
theorem newD_ok {cf : ConfD} {id term vote base baseTerm : Int} {l : List Ent} (h : mayNewD cf id term vote base baseTerm l = true) (hd : ∀ e ∈ l, e.data.length ≤ 1000000) : CoreOk (newD cf id term vote base baseTerm l) := by
 simp only [mayNewD, inD, Bool.and_eq_true, decide_eq_true_eq, List.all_eq_true] at h
 obtain ⟨⟨⟨⟨⟨⟨⟨h1, h2⟩, h3⟩, h4⟩, h5⟩, h6⟩, h7⟩, h8⟩ := h
 have hm := (ConfD.may_iff cf).1 h1
 have h9 : 0 ≤ (id - 1) * (cf.heart + 6) := Int.mul_nonneg (by omega) (by omega)
 exact { may := h1, id := h2, term := h3, base := ⟨h5.1, Int.le_refl _⟩, baseTerm := h6, len := h7, last := by show base + (l.length : Int) ≤ _; omega, commit := by show base ≤ base + _; omega,
         draw := ⟨by show 0 ≤ min _ _; omega, by show min _ _ ≤ _; omega⟩, votes := rfl, next := rfl, matc := rfl, nexts := by simp [newD], matcs := by simp [newD], ents := fun e he => by have := h8 e he; omega, frm := by simp [newD], data := hd, snap := by simp [newD] }
end Go.Proofs.YtgjiahilbmeaeaaGreatDoor