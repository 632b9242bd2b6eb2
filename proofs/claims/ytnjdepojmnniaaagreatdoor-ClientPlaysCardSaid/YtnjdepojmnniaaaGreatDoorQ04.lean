/- Joined of Lays, VaC, Blks, VaE, VaG. -/
import Derived.Test.YtnjdepojmnniaaaGreatDoorQ01
import Derived.Test.YtnjdepojmnniaaaGreatDoorVaB
import Derived.Test.YtnjdepojmnniaaaGreatDoorQ00
import Derived.BigCall
import Derived.Deep.DeepMust

set_option linter.unusedSimpArgs false
set_option linter.unusedVariables false

/- HOW DATA LIE IN MEMORY, told once for each type: numbers, truths, bytes, lists of whatever lies; what may be read, what the call owns. No program is named here. -/
namespace Go.Proofs.YtnjdepojmnniaaaGreatDoor
open Go Go.RowKit

/-- How data of a type lie in cells; all blocks that they lead «to» meet P. -/
structure Lay (α : Type) where
  size : Nat
  pos : 0 < size
  at_ : World → (Nat → Prop) → List Value → α → Prop
  len : ∀ {w : World} {P : Nat → Prop} {cs : List Value} {a : α}, at_ w P cs a → cs.length = size
  one : ∀ {w : World} {P : Nat → Prop} {cs : List Value} {a : α}, at_ w P cs a → ∀ u ∈ cs, u.oneCell' = true
  keep : ∀ {w w' : World} {G : List Nat} {P : Nat → Prop} {cs : List Value} {a : α}, at_ w P cs a → Keeps G w w' → (∀ b, P b → b ∉ G) → at_ w' P cs a
  mono : ∀ {w : World} {P P' : Nat → Prop} {cs : List Value} {a : α}, at_ w P cs a → (∀ b, b < w.heap.size → P b → P' b) → at_ w P' cs a

/-- A slice's blocks, where it has elements. -/
def Lies (P : Nat → Prop) (v : Value) (n : Nat) : Prop := n ≠ 0 → ∀ b ∈ ownB v, P b

theorem Reads.keepsL {G : List Nat} {w w' : World} {size n : Nat} {v : Value} {xs : List Value} {P : Nat → Prop} (h : Reads w size v n xs) (hl : Lies P v n) (k : Keeps G w w') (hP : ∀ b, P b → b ∉ G) : Reads w' size v n xs := by
  rcases Nat.eq_zero_or_pos n with rfl | hp
  · obtain ⟨h1, h | ⟨hp, _⟩⟩ := h
    · exact ⟨h1, .inl h⟩
    · omega
  · exact h.keeps k (fun b hb => hP b (hl (by omega) b hb))

theorem Reads.lt {w : World} {size n : Nat} {v : Value} {xs : List Value} (h : Reads w size v n xs) (hn : n ≠ 0) : ∀ b ∈ ownB v, b < w.heap.size := by
  intro b hb
  rcases h.2 with ⟨h0, _⟩ | ⟨_, b', off, c, rfl, _, _, hl, _⟩
  · exact absurd h0 hn
  · simp [mem_ownB, Value.ownBlock] at hb
    omega

theorem Lies.mono {P P' : Nat → Prop} {w : World} {size n : Nat} {v : Value} {xs : List Value} (h : Lies P v n) (hr : Reads w size v n xs) (hP : ∀ b, b < w.heap.size → P b → P' b) : Lies P' v n :=
  fun hn b hb => hP b (hr.lt hn b hb) (h hn b hb)

theorem Reads.form {w : World} {size n : Nat} {v : Value} {xs : List Value} (h : Reads w size v n xs) : ∃ a c, v = .slice a n c := by
  rcases h.2 with ⟨h0, a, c, rfl⟩ | ⟨_, b, off, c, rfl, _⟩
  · exact ⟨a, c, by rw [h0]⟩
  · exact ⟨_, _, rfl⟩

/-! Bytes. -/
def BytesAt (w : World) (P : Nat → Prop) (v : Value) (bs : List UInt8) : Prop := Reads w 1 v bs.length (u8s bs) ∧ Lies P v bs.length
theorem BytesAt.keep {G : List Nat} {w w' : World} {v : Value} {P : Nat → Prop} {bs : List UInt8} (h : BytesAt w P v bs) (k : Keeps G w w') (hP : ∀ b, P b → b ∉ G) : BytesAt w' P v bs := ⟨h.1.keepsL h.2 k hP, h.2⟩
theorem BytesAt.k {w w' : World} {v : Value} {P : Nat → Prop} {bs : List UInt8} (h : BytesAt w P v bs) (k : Keeps [] w w') : BytesAt w' P v bs := h.keep k (fun _ _ h => by cases h)
theorem BytesAt.mono {w : World} {v : Value} {P P' : Nat → Prop} {bs : List UInt8} (h : BytesAt w P v bs) (hP : ∀ b, b < w.heap.size → P b → P' b) : BytesAt w P' v bs := ⟨h.1, h.2.mono h.1 hP⟩
theorem BytesAt.form {w : World} {v : Value} {P : Nat → Prop} {bs : List UInt8} (h : BytesAt w P v bs) : ∃ a c, v = .slice a bs.length c := h.1.form
theorem BytesAt.nil (w : World) (P : Nat → Prop) (a : Option Addr) (c : Nat) : BytesAt w P (.slice a 0 c) [] := ⟨⟨rfl, .inl ⟨rfl, _, _, rfl⟩⟩, fun h => absurd rfl h⟩
theorem BytesAt.ofOwn {w : World} {base e : Nat} {v : Value} {P : Nat → Prop} {bs : List UInt8} {n : Nat} (h : w.ownsRow base e 1 v n (u8s bs)) (hn : n = bs.length) (hP : ∀ b, base ≤ b → b < w.heap.size → P b) : BytesAt w P v bs := by
  subst hn
  exact ⟨Reads.ofOwn h, fun _ b hb => hP b (ownB_ge h b hb).1 (ownB_ge h b hb).2⟩
theorem slice_one (v : Value) (h : ∃ a n c, v = .slice a n c) : v.oneCell' = true := by
  obtain ⟨_, _, _, rfl⟩ := h
  rfl

def Lay.bytes : Lay (List UInt8) where
  size := 1
  pos := by decide
  at_ w P cs bs := ∃ v, cs = [v] ∧ BytesAt w P v bs
  len := fun ⟨v, e, _⟩ => by rw [e]; rfl
  one := fun ⟨v, e, h⟩ u hu => by
    rw [e] at hu
    simp at hu
    subst hu
    obtain ⟨a, c, rfl⟩ := h.form
    rfl
  keep := fun ⟨v, e, h⟩ k hP => ⟨v, e, h.keep k hP⟩
  mono := fun ⟨v, e, h⟩ hP => ⟨v, e, h.mono hP⟩

/-! Lists. -/
section
variable {α : Type} (L : Lay α)

/-- What elements lie in: cells by cells. -/
def ElemsAt (w : World) (P : Nat → Prop) (css : List (List Value)) (l : List α) : Prop := css.length = l.length ∧ ∀ (i : Nat) (cs : List Value) (a : α), css[i]? = some cs → l[i]? = some a → L.at_ w P cs a

variable {L}
theorem ElemsAt.keep {G : List Nat} {w w' : World} {P : Nat → Prop} {css : List (List Value)} {l : List α} (h : ElemsAt L w P css l) (k : Keeps G w w') (hP : ∀ b, P b → b ∉ G) : ElemsAt L w' P css l := ⟨h.1, fun i cs a h1 h2 => L.keep (h.2 i cs a h1 h2) k hP⟩
theorem ElemsAt.mono {w : World} {P P' : Nat → Prop} {css : List (List Value)} {l : List α} (h : ElemsAt L w P css l) (hP : ∀ b, b < w.heap.size → P b → P' b) : ElemsAt L w P' css l := ⟨h.1, fun i cs a h1 h2 => L.mono (h.2 i cs a h1 h2) hP⟩
theorem ElemsAt.nil (w : World) (P : Nat → Prop) : ElemsAt L w P [] [] := ⟨rfl, fun i cs a h => by simp at h⟩
theorem ElemsAt.snoc {w : World} {P : Nat → Prop} {css : List (List Value)} {l : List α} {cs : List Value} {a : α} (h : ElemsAt L w P css l) (h1 : L.at_ w P cs a) : ElemsAt L w P (css ++ [cs]) (l ++ [a]) := by
  refine ⟨by simp [h.1], fun i cs' a' hc ha => ?_⟩
  rw [List.getElem?_append] at hc ha
  rw [h.1] at hc
  split at hc <;> split at ha
  · exact h.2 i _ _ hc ha
  · omega
  · omega
  · have e : i - l.length = 0 := by
      have := (List.getElem?_eq_some_iff.1 hc).1
      simp at this
      omega
    rw [e] at hc ha
    simp at hc ha
    subst hc ha
    exact h1
theorem ElemsAt.append {w : World} {P : Nat → Prop} {css css2 : List (List Value)} {l l2 : List α} (h : ElemsAt L w P css l) (h2 : ElemsAt L w P css2 l2) : ElemsAt L w P (css ++ css2) (l ++ l2) := by
  refine ⟨by simp [h.1, h2.1], fun i cs' a' hc ha => ?_⟩
  rw [List.getElem?_append] at hc ha
  rw [h.1] at hc
  split at hc <;> split at ha
  · exact h.2 i _ _ hc ha
  · omega
  · omega
  · exact h2.2 _ _ _ hc ha
theorem ElemsAt.take {w : World} {P : Nat → Prop} {css : List (List Value)} {l : List α} (h : ElemsAt L w P css l) (n : Nat) : ElemsAt L w P (css.take n) (l.take n) := by
  refine ⟨by simp [h.1], fun i cs' a' hc ha => ?_⟩
  rw [List.getElem?_take] at hc ha
  split at hc
  · rename_i hi
    rw [if_pos hi] at ha
    exact h.2 i _ _ hc ha
  · cases hc
theorem ElemsAt.drop {w : World} {P : Nat → Prop} {css : List (List Value)} {l : List α} (h : ElemsAt L w P css l) (n : Nat) : ElemsAt L w P (css.drop n) (l.drop n) := by
  refine ⟨by simp [h.1], fun i cs' a' hc ha => ?_⟩
  rw [List.getElem?_drop] at hc ha
  exact h.2 _ _ _ hc ha
theorem ElemsAt.lens {w : World} {P : Nat → Prop} {css : List (List Value)} {l : List α} (h : ElemsAt L w P css l) : ∀ cs ∈ css, cs.length = L.size := by
  intro cs hc
  obtain ⟨i, hi, rfl⟩ := List.mem_iff_getElem.1 hc
  exact L.len (h.2 i _ _ (List.getElem?_eq_getElem hi) (List.getElem?_eq_getElem (by rw [← h.1]; exact hi)))
theorem ElemsAt.one {w : World} {P : Nat → Prop} {css : List (List Value)} {l : List α} (h : ElemsAt L w P css l) : ∀ u ∈ css.flatten, u.oneCell' = true := by
  intro u hu
  obtain ⟨cs, hc, hu⟩ := List.mem_flatten.1 hu
  obtain ⟨i, hi, rfl⟩ := List.mem_iff_getElem.1 hc
  exact L.one (h.2 i _ _ (List.getElem?_eq_getElem hi) (List.getElem?_eq_getElem (by rw [← h.1]; exact hi))) u hu

theorem flatten_length {css : List (List Value)} {n : Nat} (h : ∀ cs ∈ css, cs.length = n) : css.flatten.length = css.length * n := by
  induction css with
  | nil => simp
  | cons c r ih =>
    rw [List.flatten_cons, List.length_append, ih (fun x hx => h x (List.mem_cons_of_mem _ hx)), h c (by simp), List.length_cons, Nat.add_mul]
    omega
theorem flatten_get {n : Nat} : ∀ {css : List (List Value)} (_ : ∀ cs ∈ css, cs.length = n) {i j : Nat} {cs : List Value} (_ : css[i]? = some cs) (_ : j < n), css.flatten[i * n + j]? = cs[j]?
  | [], _, i, j, cs, h, _ => by simp at h
  | c :: r, hl, 0, j, cs, h, hj => by
    simp at h
    subst h
    have := hl c (by simp)
    rw [List.flatten_cons, List.getElem?_append_left (by omega)]
    simp
  | c :: r, hl, i + 1, j, cs, h, hj => by
    have hc := hl c (by simp)
    have h1 : (i + 1) * n + j - c.length = i * n + j := by rw [hc, Nat.add_mul]; omega
    rw [List.flatten_cons, List.getElem?_append_right (by rw [hc, Nat.add_mul]; omega), h1]
    exact flatten_get (fun x hx => hl x (List.mem_cons_of_mem _ hx)) (by simpa using h) hj
theorem flatten_take {n : Nat} : ∀ {css : List (List Value)} (_ : ∀ cs ∈ css, cs.length = n) (k : Nat), css.flatten.take (k * n) = (css.take k).flatten
  | [], _, k => by simp
  | c :: r, hl, 0 => by simp
  | c :: r, hl, k + 1 => by
    have hc := hl c (by simp)
    rw [List.flatten_cons, List.take_succ_cons, List.flatten_cons, List.take_append, hc, List.take_of_length_le (by rw [hc, Nat.add_mul]; omega), show (k + 1) * n - n = k * n by rw [Nat.add_mul]; omega, flatten_take (fun x hx => hl x (List.mem_cons_of_mem _ hx)) k]
theorem flatten_drop {n : Nat} : ∀ {css : List (List Value)} (_ : ∀ cs ∈ css, cs.length = n) (k : Nat), css.flatten.drop (k * n) = (css.drop k).flatten
  | [], _, k => by simp
  | c :: r, hl, 0 => by simp
  | c :: r, hl, k + 1 => by
    have hc := hl c (by simp)
    rw [List.flatten_cons, List.drop_succ_cons, List.drop_append, hc, List.drop_of_length_le (by rw [hc, Nat.add_mul]; omega), List.nil_append, show (k + 1) * n - n = k * n by rw [Nat.add_mul]; omega, flatten_drop (fun x hx => hl x (List.mem_cons_of_mem _ hx)) k]

variable (L)
/-- A slice that may be read. -/
def ListAt (w : World) (P : Nat → Prop) (v : Value) (l : List α) : Prop := ∃ css, ElemsAt L w P css l ∧ Reads w L.size v l.length css.flatten ∧ Lies P v l.length
/-- A slice whose row the call owns: its elements' own blocks meet P. -/
def OwnAt (et : TypeId) (w : World) (base : Nat) (P : Nat → Prop) (v : Value) (l : List α) : Prop := ∃ css, ElemsAt L w P css l ∧ w.ownsRow base et L.size v l.length css.flatten

variable {L}
theorem ListAt.keep {G : List Nat} {w w' : World} {P : Nat → Prop} {v : Value} {l : List α} (h : ListAt L w P v l) (k : Keeps G w w') (hP : ∀ b, P b → b ∉ G) : ListAt L w' P v l := by
  obtain ⟨css, h1, h2, h3⟩ := h
  exact ⟨css, h1.keep k hP, h2.keepsL h3 k hP, h3⟩
theorem ListAt.k {w w' : World} {P : Nat → Prop} {v : Value} {l : List α} (h : ListAt L w P v l) (k : Keeps [] w w') : ListAt L w' P v l := h.keep k (fun _ _ h => by cases h)
theorem ListAt.mono {w : World} {P P' : Nat → Prop} {v : Value} {l : List α} (h : ListAt L w P v l) (hP : ∀ b, b < w.heap.size → P b → P' b) : ListAt L w P' v l := by
  obtain ⟨css, h1, h2, h3⟩ := h
  exact ⟨css, h1.mono hP, h2, h3.mono h2 hP⟩
theorem ListAt.form {w : World} {P : Nat → Prop} {v : Value} {l : List α} (h : ListAt L w P v l) : ∃ a c, v = .slice a l.length c := by
  obtain ⟨css, _, h2, _⟩ := h
  exact h2.form
theorem ListAt.nil (w : World) (P : Nat → Prop) (a : Option Addr) (c : Nat) : ListAt L w P (.slice a 0 c) [] := ⟨[], ElemsAt.nil w P, ⟨by simp, .inl ⟨rfl, _, _, rfl⟩⟩, fun h => absurd rfl h⟩
theorem ListAt.addr {w : World} {P : Nat → Prop} {v : Value} {l : List α} (h : ListAt L w P v l) (hn : l ≠ []) : ∃ b off c, v = .slice (some ⟨b, off, none⟩) l.length c ∧ l.length ≤ c ∧ c ≤ maxLen ∧ b < w.heap.size ∧ P b := by
  obtain ⟨css, _, h2, h3⟩ := h
  have hl : l.length ≠ 0 := fun e => hn (List.eq_nil_of_length_eq_zero e)
  rcases h2.2 with ⟨h0, _⟩ | ⟨_, b, off, c, rfl, h4, h5, h6, _⟩
  · exact absurd h0 hl
  · exact ⟨b, off, c, rfl, h4, h5, h6, h3 hl b (by simp [mem_ownB, Value.ownBlock])⟩
/-- An element's cells. -/
theorem ListAt.get {w : World} {P : Nat → Prop} {b off n c : Nat} {l : List α} (h : ListAt L w P (.slice (some ⟨b, off, none⟩) n c) l) {i : Nat} {a : α} (ha : l[i]? = some a) :
    ∃ cs, L.at_ w P cs a ∧ ∀ j u, cs[j]? = some u → w.cell? ⟨b, off + i * L.size + j, none⟩ = some u := by
  obtain ⟨css, h1, h2, _⟩ := h
  have hi : i < l.length := (List.getElem?_eq_some_iff.1 ha).1
  have hc : css[i]? = some (css[i]'(by rw [h1.1]; exact hi)) := List.getElem?_eq_getElem _
  refine ⟨_, h1.2 i _ _ hc ha, fun j u hu => ?_⟩
  have hj : j < L.size := by
    have := (List.getElem?_eq_some_iff.1 hu).1
    rwa [L.len (h1.2 i _ _ hc ha)] at this
  rcases h2.2 with ⟨h0, _⟩ | ⟨_, b', off', c', e, _, _, _, hx⟩
  · omega
  · simp at e
    obtain ⟨⟨rfl, rfl⟩, _⟩ := e
    have := hx (i * L.size + j) u (by rw [flatten_get h1.lens hc hj]; exact hu)
    rw [← Nat.add_assoc] at this
    exact this
/-- A piece of it. -/
theorem ListAt.piece {w : World} {P : Nat → Prop} {b off n c : Nat} {l : List α} (h : ListAt L w P (.slice (some ⟨b, off, none⟩) n c) l) (i m c' : Nat) (a : Option Addr) (him : i + m ≤ l.length) (hc : m ≤ c') (hcm : c' ≤ maxLen) (ha : 0 < m → a = some ⟨b, off + i * L.size, none⟩) :
    ListAt L w P (.slice a m c') ((l.drop i).take m) := by
  obtain ⟨css, h1, h2, h3⟩ := h
  have hlm : ((l.drop i).take m).length = m := by simp; omega
  refine ⟨(css.drop i).take m, (h1.drop i).take m, ?_, ?_⟩
  · have hlen : ((css.drop i).take m).flatten.length = m * L.size := by
      rw [flatten_length (n := L.size) (fun cs hcs => h1.lens cs (List.mem_of_mem_drop (List.mem_of_mem_take hcs)))]
      have := h1.1
      simp only [List.length_take, List.length_drop]
      rw [show min m (css.length - i) = m by omega]
    rw [hlm]
    refine ⟨hlen, ?_⟩
    rcases Nat.eq_zero_or_pos m with rfl | hp
    · exact .inl ⟨rfl, _, _, rfl⟩
    · rcases h2.2 with ⟨h0, _⟩ | ⟨_, b', off', c2, e, _, _, hb, hx⟩
      · omega
      · simp at e
        obtain ⟨⟨rfl, rfl⟩, _⟩ := e
        refine .inr ⟨hp, b, off + i * L.size, c', by rw [ha hp], hc, hcm, hb, fun j u hu => ?_⟩
        have hj : j < m * L.size := by
          have := (List.getElem?_eq_some_iff.1 hu).1
          omega
        rw [← flatten_take (n := L.size) (fun cs hcs => h1.lens cs (List.mem_of_mem_drop hcs)), List.getElem?_take, if_pos hj, ← flatten_drop h1.lens, List.getElem?_drop] at hu
        rw [Nat.add_assoc]
        exact hx _ u hu
  · intro hm b' hb'
    rw [hlm] at hm
    rw [ha (by omega)] at hb'
    exact h3 (by omega) b' (by simpa [mem_ownB, Value.ownBlock] using hb')

theorem OwnAt.nil (et : TypeId) (w : World) (base : Nat) (P : Nat → Prop) : OwnAt L et w base P (.slice none 0 0) [] := ⟨[], ElemsAt.nil w P, World.ownsRow_nil w base et L.size⟩
theorem OwnAt.form {et : TypeId} {w : World} {base : Nat} {P : Nat → Prop} {v : Value} {l : List α} (h : OwnAt L et w base P v l) : ∃ a c, v = .slice a l.length c := by
  obtain ⟨css, _, h2⟩ := h
  exact len_form h2
theorem OwnAt.list {et : TypeId} {w : World} {base : Nat} {P P' : Nat → Prop} {v : Value} {l : List α} (h : OwnAt L et w base P v l) (hP : ∀ b, b < w.heap.size → P b → P' b) (hv : ∀ b ∈ ownB v, P' b) : ListAt L w P' v l := by
  obtain ⟨css, h1, h2⟩ := h
  exact ⟨css, h1.mono hP, Reads.ofOwn h2, fun _ => hv⟩
theorem OwnAt.ge {et : TypeId} {w : World} {base : Nat} {P : Nat → Prop} {v : Value} {l : List α} (h : OwnAt L et w base P v l) : ∀ b ∈ ownB v, base ≤ b ∧ b < w.heap.size := by
  obtain ⟨css, _, h2⟩ := h
  exact ownB_ge h2
theorem OwnAt.keep {G : List Nat} {et : TypeId} {w w' : World} {base : Nat} {P : Nat → Prop} {v : Value} {l : List α} (h : OwnAt L et w base P v l) (k : Keeps G w w') (hv : ∀ b ∈ ownB v, b ∉ G) (hP : ∀ b, P b → b ∉ G) : OwnAt L et w' base P v l := by
  obtain ⟨css, h1, h2⟩ := h
  exact ⟨css, h1.keep k hP, ownsRow_keeps h2 k hv⟩
theorem OwnAt.k {et : TypeId} {w w' : World} {base : Nat} {P : Nat → Prop} {v : Value} {l : List α} (h : OwnAt L et w base P v l) (k : Keeps [] w w') : OwnAt L et w' base P v l := h.keep k (fun _ _ h => by cases h) (fun _ _ h => by cases h)
theorem OwnAt.mono {et : TypeId} {w : World} {base : Nat} {P P' : Nat → Prop} {v : Value} {l : List α} (h : OwnAt L et w base P v l) (hP : ∀ b, b < w.heap.size → P b → P' b) : OwnAt L et w base P' v l := by
  obtain ⟨css, h1, h2⟩ := h
  exact ⟨css, h1.mono hP, h2⟩
theorem OwnAt.base {et : TypeId} {w : World} {base base' : Nat} {P : Nat → Prop} {v : Value} {l : List α} (h : OwnAt L et w base P v l) (hb : base' ≤ base) : OwnAt L et w base' P v l := by
  obtain ⟨css, h1, h2⟩ := h
  exact ⟨css, h1, ownsRow_base h2 hb⟩
end

section
variable {α : Type} {L : Lay α} {P : Program} {ops : Array Oper} {rest : List Oper} {o : Oper} {a : Act} {Q : Exit → Act → World → Prop} (w : World)

/-- append(own, src...): the row grows by what the source reads. -/
theorem wpList_append_lay (hgd : o.guard = none) (s x : Operand) (t : TypeId)
    (ho : o.op = .call { callee := .builtin .append, args := #[s, x], argTypes := #[t, t] })
    (base e : TypeId) (i : TypeInfo) (z : Value) (bytes : Nat) (ht : P.underlying t = some (.slice e)) (hi : P.info? e = some i) (hz : i.zero = some z)
    (hsize : i.size = L.size) (hby : i.bytes = bytes) (hzs : z.cells.size = L.size)
    {PA PB PC : Nat → Prop} (v : Value) (hs : a.eval s = v) (l l2 : List α) (css2 : List (List Value)) (hown : OwnAt L e w base PA v l) (src : Value) (hx : a.eval x = src) (n2 : Nat) (hn2 : l2.length = n2) (h3 : ElemsAt L w PB css2 l2) (h4 : Reads w L.size src n2 css2.flatten) (hbytes : (l.length + n2) * bytes ≤ 140737488355328) (h63 : l.length + n2 ≤ maxLen) (hbase : base ≤ w.heap.size)
    (hA : ∀ b, b < w.heap.size → PA b → PC b) (hB : ∀ b, b < w.heap.size → PB b → PC b) (hC : ∀ b, PC b → b ∉ ownB v)
    (h : ∀ a' c' w', Hid (OwnAt L e w' base PC (.slice a' (l.length + n2) c') (l ++ l2)) → Hid (Keeps (ownB v) w w') → Hid ((Value.slice a' (l.length + n2) c').ownBlock = v.ownBlock ∨ (Value.slice a' (l.length + n2) c').ownBlock = some w.heap.size) → wpList P ops Q rest (a.put o.dst (.slice a' (l.length + n2) c')) w') : wpList P ops Q (o :: rest) a w := by
  subst hn2
  obtain ⟨css, h1, h2⟩ := hown
  refine wpList_append_reads w hgd s x t ho base e i z L.size bytes ht hi hz hsize hby hzs L.pos v hs l.length css.flatten h2 src hx l2.length css2.flatten h4 h3.one hbytes h63 hbase fun a' c' w' g1 g2 g3 g4 => ?_
  have k : Keeps (ownB v) w w' := Keeps.ofGrown g2.out (fun k h => mem_ownB.2 h)
  refine h a' c' w' ⟨css ++ css2, ((h1.mono hA).keep k hC).append ((h3.mono hB).keep k hC), ?_⟩ k g3
  have := g1.out
  rwa [List.length_append, List.flatten_append]
end

/-- The same where the elements' blocks are known «to» lie off the row: they lie off the new one. -/
theorem wpList_append_off {α : Type} {L : Lay α} {P : Program} {ops : Array Oper} {rest : List Oper} {o : Oper} {a : Act} {Q : Exit → Act → World → Prop} (w : World) (hgd : o.guard = none) (s x : Operand) (t : TypeId)
    (ho : o.op = .call { callee := .builtin .append, args := #[s, x], argTypes := #[t, t] })
    (base e : TypeId) (i : TypeInfo) (z : Value) (bytes : Nat) (ht : P.underlying t = some (.slice e)) (hi : P.info? e = some i) (hz : i.zero = some z)
    (hsize : i.size = L.size) (hby : i.bytes = bytes) (hzs : z.cells.size = L.size)
    {R PB : Nat → Prop} (v : Value) (hs : a.eval s = v) (l l2 : List α) (n1 : Nat) (hn1 : l.length = n1) (css2 : List (List Value)) (hown : OwnAt L e w base (fun b => R b ∧ b ∉ ownB v) v l) (src : Value) (hx : a.eval x = src) (n2 : Nat) (hn2 : l2.length = n2) (h3 : ElemsAt L w PB css2 l2) (h4 : Reads w L.size src n2 css2.flatten) (hbytes : (n1 + n2) * bytes ≤ 140737488355328) (h63 : n1 + n2 ≤ maxLen) (hbase : base ≤ w.heap.size)
    (hB : ∀ b, b < w.heap.size → PB b → R b ∧ b ∉ ownB v)
    (h : ∀ a' c' w', Hid (OwnAt L e w' base (fun b => R b ∧ b ∉ ownB (.slice a' (n1 + n2) c')) (.slice a' (n1 + n2) c') (l ++ l2)) → Hid (Keeps (ownB v) w w') → Hid (∀ b ∈ ownB (.slice a' (n1 + n2) c'), b ∈ ownB v ∨ w.heap.size ≤ b) → wpList P ops Q rest (a.put o.dst (.slice a' (n1 + n2) c')) w') : wpList P ops Q (o :: rest) a w := by
  subst hn1
  refine wpList_append_lay w hgd s x t ho base e i z bytes ht hi hz hsize hby hzs (PC := fun b => (R b ∧ b ∉ ownB v) ∧ b < w.heap.size) v hs l l2 css2 hown src hx n2 hn2 h3 h4 hbytes h63 hbase (fun b h1 h2 => ⟨h2, h1⟩) (fun b h1 h2 => ⟨hB b h1 h2, h1⟩) (fun b h => h.1.2) fun a' c' w' g1 g2 g3 => ?_
  have hv : ∀ b ∈ ownB (.slice a' (l.length + n2) c'), b ∈ ownB v ∨ w.heap.size ≤ b := fun b hb => by
    rw [mem_ownB] at hb ⊢
    rcases g3.out with g | g
    · exact .inl (by rw [← g]; exact hb)
    · rw [g] at hb
      simp at hb
      omega
  refine h a' c' w' (OwnAt.mono g1.out fun b _ hb => ⟨hb.1.1, fun hb' => ?_⟩) g2 hv
  rcases hv b hb' with h | h
  · exact hb.1.2 h
  · omega

/-- One element, as a slice of it is built. -/
theorem ElemsAt.one1 {α : Type} {L : Lay α} {w : World} {P : Nat → Prop} {cs : List Value} {a : α} (h : L.at_ w P cs a) : ElemsAt L w P [cs] [a] := by
  have := (ElemsAt.nil (L := L) w P).snoc h
  simpa using this
theorem Reads.one1 {w : World} {B n : Nat} {cs : Array Value} {t : TypeId} {fr : Nat × Nat} (hb : w.heap[B]? = some (.cells cs t fr)) (hs : cs.size = n) : Reads w n (.slice (some ⟨B, 0, none⟩) 1 1) 1 [cs.toList].flatten := by
  have := Reads.ofBlock (n := 1) (size := n) hb (by omega) (by unfold maxLen; omega)
  simpa using this

end Go.Proofs.YtnjdepojmnniaaaGreatDoor

/- palaverref01's Pieces, Valid, Count. -/
namespace Go.Proofs.YtnjdepojmnniaaaGreatDoor
open Go Go.RowKit

def pcC (p : Pc) : List Value := [.int .i64 p.at_, .int .i64 p.n, .int .i32 p.r, .bool p.bad]
def pcL : Lay Pc where
  size := 4
  pos := by decide
  at_ _ _ cs p := cs = pcC p
  len := fun e => by rw [e]; rfl
  one := fun e u hu => by
    rw [e] at hu
    simp [pcC] at hu
    rcases hu with rfl | rfl | rfl | rfl <;> rfl
  keep := fun e _ _ => e
  mono := fun e _ => e
theorem Tryz.infoPc : (Tryz.prog.info? 105).map (fun i => (i.zero, i.size, i.bytes)) = some (some (.agg #[.int .i64 0, .int .i64 0, .int .i32 0, .bool false]), 4, 24) := by kernel_rfl

def FreshPcs (w w' : World) (v : Value) (l : List Pc) : Prop := OwnAt pcL 105 w' w.heap.size (fun b => w.heap.size ≤ b ∧ b ∉ ownB v) v l
def PcsPost (s : ByteArray) (w : World) (e : Ending) (w' : World) : Prop := ∃ a q, e = .returned (.slice a (pieces s.data.toList).length q) ∧ FreshPcs w w' (.slice a (pieces s.data.toList).length q) (pieces s.data.toList) ∧ Keeps [] w w'

set_option maxRecDepth 100000 in
set_option maxHeartbeats 1600000 in
theorem pieces_any (s : ByteArray) (w : World) (hs : s.size ≤ 1000000) :
    Calls Tryz.prog 67 #[.string s] w (PcsPost s w) := by
  obtain ⟨it, hi0, hz0, hz1, hz2⟩ := info_parts Tryz.infoPc
  have HL : Hid (s.data.toList.length = s.size) := Array.length_toList
  go_enter Tryz.func67, Tryz.ntmps67
  go_wp2_with fail
  go_loopw [3, 4] (fun v i wr => ∃ (d : List Pc) (k p : Nat) (a : Option Addr) (q : Nat), p ≤ s.size ∧ k ≤ p ∧ v = .slice a k q ∧ i = .int .i64 p ∧ Hid (d.length = k ∧ PcsAt s.data.toList d p ∧ FreshPcs w wr (.slice a k q) d ∧ Keeps [] w wr)) (fun _ i _ => s.size - (intOf i).toNat)
  case atStart => exact ⟨[], 0, 0, none, 0, Nat.zero_le _, Nat.le_refl _, rfl, rfl, rfl, PcsAt.zero _, OwnAt.nil _ _ _ _, Keeps.refl [] w⟩
  case round =>
    obtain ⟨d, k, p, a, q, hp, hkp, rfl, rfl, HW⟩ := hrel
    have i0 : (0 : Int) ≤ (p : Int) := Int.natCast_nonneg _
    by_cases hlt : p < s.size
    · have hlt' : (p : Int) < (s.size : Int) := by omega
      obtain ⟨x, hx⟩ : ∃ x, pcAt s p = x := ⟨_, rfl⟩
      have HXP : Hid (x.at_ = p) := by show _ = _; rw [← hx]; rfl
      have HX := hid hx
      have HN : Hid (PcsAt s.data.toList (d ++ [x]) (p + x.n) ∧ 1 ≤ x.n) := by
        have h1 := HW.out.2.1.next (by rw [HL.out]; exact hlt)
        rw [← hx]
        exact ⟨h1, Lib.decodeL_width _⟩
      have n0 : 1 ≤ x.n := HN.out.2
      have n1 : p + x.n ≤ s.size := by have := HN.out.1.1; rw [HL.out] at this; exact this
      have HZ : Hid (w.heap.size ≤ wr.heap.size) := HW.out.2.2.2.size
      clear hx
      go_wp2_with fail
      refine (one_any s p _ hlt (by omega)).mono ?_
      rintro e w3 ⟨rfl, hk3⟩
      rw [HX.out]
      unfold pcV
      rw [HXP.out]
      have HRW : Hid (((w3.alloc (.cells #[.int .i64 p, .int .i64 x.n, .int .i32 x.r, .bool x.bad] 105)).alloc (.cells #[.int .i64 p, .int .i64 x.n, .int .i32 x.r, .bool x.bad] 105)).heap[w3.heap.size + 1]? = some (.cells #[.int .i64 p, .int .i64 x.n, .int .i32 x.r, .bool x.bad] 105 (0, 0))) := by
        have h1 := heap_alloc_new (w3.alloc (.cells #[.int .i64 p, .int .i64 x.n, .int .i32 x.r, .bool x.bad] 105)) (.cells #[.int .i64 p, .int .i64 x.n, .int .i32 x.r, .bool x.bad] 105)
        rw [show (w3.alloc (.cells #[.int .i64 p, .int .i64 x.n, .int .i32 x.r, .bool x.bad] 105)).heap.size = w3.heap.size + 1 by simp] at h1
        exact h1
      have K3 := hid hk3
      have HOW : Hid (OwnAt pcL 105 w3 w.heap.size (fun b => w.heap.size ≤ b ∧ b ∉ ownB (.slice a k q)) (.slice a k q) d) := OwnAt.k HW.out.2.2.1 hk3
      have HTL : Hid (d.length = k) := HW.out.1
      have HOB : Hid (∀ b ∈ ownB (.slice a k q), w.heap.size ≤ b ∧ b < w3.heap.size) := fun b hb => ⟨(OwnAt.ge HOW.out b hb).1, Nat.lt_of_lt_of_le (OwnAt.ge HW.out.2.2.1 b hb).2 K3.out.size⟩
      clear hk3
      go_wp2_with (at_builtin; go_must (refine wpList_append_off (L := pcL) (PB := fun _ => False) _ (by rfl) _ _ _ (by rfl) w.heap.size 105 it _ 24 Tryz.underlying102 hi0 hz0 hz1 hz2 rfl (R := fun b => w.heap.size ≤ b) (.slice a k q) (by rfl) d [x] k HTL.out [[.int .i64 p, .int .i64 x.n, .int .i32 x.r, .bool x.bad]] (HOW.out.k (by exact Keeps.K)) (.slice _ _ _) (by rfl) 1 rfl (ElemsAt.one1 (by show _ = pcC x; unfold pcC; rw [HXP.out])) (Reads.one1 HRW.out rfl) (by omega) (le_maxLen (by omega)) (by exact Nat.le_trans HZ.out (Nat.le_trans K3.out.size (Keeps.size (F := []) (by exact Keeps.K)))) (fun b _ hb => hb.elim) ?_; intro a4 q4 w4 ho4 hk4 hv4; have y1 : w4.cell? ⟨w3.heap.size, 1, none⟩ = some (.int .i64 x.n) := hk4.out.cellSome (by go_simp) (fun hb => Nat.lt_irrefl _ (HOB.out _ hb).2)))
      go_roundw
      case rel => exact ⟨d ++ [x], k + 1, p + x.n, a4, q4, n1, by omega, rfl, by go_num, by simp [HW.out.1], HN.out.1, ho4.out, ((HW.out.2.2.2.trans K3.out (fun _ _ h => h)).trans (by exact Keeps.K) (fun _ _ h => h)).trans hk4.out (fun b hb hb' => absurd hb (Nat.not_lt.2 (HOB.out b hb').1))⟩
      case measure => simp [intOf]; omega
    · have hge : (s.size : Int) ≤ (p : Int) := by omega
      have HE : Hid (d = pieces s.data.toList ∧ p = s.data.toList.length) := HW.out.2.1.end_ (by rw [HL.out]; exact hlt)
      go_wp2_with fail
      go_ret
      have h1 := HW.out
      rw [HE.out.1] at h1
      refine ⟨a, q, by rw [h1.1]; rfl, by rw [h1.1]; exact h1.2.2.1, h1.2.2.2⟩

end Go.Proofs.YtnjdepojmnniaaaGreatDoor

/- The cells of a block, written out. -/
namespace Go.Proofs.YtnjdepojmnniaaaGreatDoor
open Go Go.RowKit

/-- A block known whole: its cells; none is frozen. -/
theorem blk3 {w : World} {b : Nat} {x0 x1 x2 : Value} {t : TypeId} (h : w.heap[b]? = some (.cells #[x0, x1, x2] t (0, 0))) :
    (w.cell? ⟨b, 0, none⟩ = some x0 ∧ w.cell? ⟨b, 1, none⟩ = some x1 ∧ w.cell? ⟨b, 2, none⟩ = some x2) ∧ ∀ i, w.frozen? ⟨b, i, none⟩ = false :=
  ⟨⟨cell_of_block h 0, cell_of_block h 1, cell_of_block h 2⟩, fun i => frozen_of_row w b i _ _ h⟩
theorem blk10 {w : World} {b : Nat} {x0 x1 x2 x3 x4 x5 x6 x7 x8 x9 : Value} {t : TypeId} (h : w.heap[b]? = some (.cells #[x0, x1, x2, x3, x4, x5, x6, x7, x8, x9] t (0, 0))) :
    (w.cell? ⟨b, 0, none⟩ = some x0 ∧ w.cell? ⟨b, 1, none⟩ = some x1 ∧ w.cell? ⟨b, 2, none⟩ = some x2 ∧ w.cell? ⟨b, 3, none⟩ = some x3 ∧ w.cell? ⟨b, 4, none⟩ = some x4 ∧ w.cell? ⟨b, 5, none⟩ = some x5 ∧ w.cell? ⟨b, 6, none⟩ = some x6 ∧ w.cell? ⟨b, 7, none⟩ = some x7 ∧ w.cell? ⟨b, 8, none⟩ = some x8 ∧ w.cell? ⟨b, 9, none⟩ = some x9) ∧ ∀ i, w.frozen? ⟨b, i, none⟩ = false :=
  ⟨⟨cell_of_block h 0, cell_of_block h 1, cell_of_block h 2, cell_of_block h 3, cell_of_block h 4, cell_of_block h 5, cell_of_block h 6, cell_of_block h 7, cell_of_block h 8, cell_of_block h 9⟩, fun i => frozen_of_row w b i _ _ h⟩

end Go.Proofs.YtnjdepojmnniaaaGreatDoor

/- palaverref01's Valid, Count; the program's runes.Valid, Count; values' checks, both ways. -/
namespace Go.Proofs.YtnjdepojmnniaaaGreatDoor
open Go Go.RowKit

theorem fresh_pcs {w w' : World} {v : Value} {l : List Pc} (h : FreshPcs w w' v l) : ListAt pcL w' (fun b => w.heap.size ≤ b) v l := OwnAt.list h (fun b _ hb => hb.1) (fun b hb => (OwnAt.ge h b hb).1)
theorem all_prefix {l : List Pc} {k : Nat} (h : ∀ j x, j < k → l[j]? = some x → x.bad = false) (hk : l.length ≤ k) : l.all (fun x => !x.bad) = true := by
  rw [List.all_eq_true]
  intro x hx
  obtain ⟨j, hj⟩ := List.getElem?_of_mem hx
  have hlt : j < l.length := (List.getElem?_eq_some_iff.1 hj).1
  rw [h j x (by omega) hj]; rfl
theorem all_not {l : List Pc} {k : Nat} {x : Pc} (h : l[k]? = some x) (hb : x.bad = true) : l.all (fun x => !x.bad) = false := by
  rw [Bool.eq_false_iff]
  intro ha
  have := List.all_eq_true.1 ha x (List.mem_of_getElem? h)
  rw [hb] at this
  cases this

set_option maxRecDepth 100000 in
theorem r1Valid_any (s : ByteArray) (w : World) (hs : s.size ≤ 1000000) :
    Calls Tryz.prog 47 #[.string s] w fun e w' => e = .returned (.bool (Lib.validD s.data.toList)) ∧ Keeps [] w w' := by
  have HV : Hid ((pieces s.data.toList).all (fun x => !x.bad) = Lib.validD s.data.toList) := pieces_valid _
  have hln := pieces_le s.data.toList
  have hsz : s.data.toList.length = s.size := Array.length_toList
  rw [hsz] at hln
  clear hsz
  go_enter Tryz.func47, Tryz.ntmps47
  go_wp2_with fail
  refine (pieces_any s w hs).mono ?_
  rintro e w1 ⟨a, q, rfl, hf, hk⟩
  obtain ⟨l, hl⟩ : ∃ l, pieces s.data.toList = l := ⟨_, rfl⟩
  rw [hl] at hf hln ⊢
  have HVV : Hid (l.all (fun x => !x.bad) = Lib.validD s.data.toList) := by show _ = _; rw [← hl]; exact HV.out
  have HL := hid (fresh_pcs hf)
  have HK := hid hk
  clear hf hk hl HV
  go_wp2_with fail
  go_loop [4] (fun i => ∃ k : Nat, k ≤ l.length ∧ i = .int .i64 k ∧ Hid (∀ j x, j < k → l[j]? = some x → x.bad = false)) (fun i => l.length - (intOf i).toNat)
  case atStart => exact ⟨0, Nat.zero_le _, rfl, fun j x h _ => by omega⟩
  case round =>
    obtain ⟨k, hk, rfl, HA⟩ := hrel
    have i0 : (0 : Int) ≤ (k : Int) := Int.natCast_nonneg _
    by_cases hlt : k < l.length
    · have hlt' : (k : Int) < (l.length : Int) := by omega
      obtain ⟨x, hx⟩ : ∃ x, l[k]? = some x := ⟨_, List.getElem?_eq_getElem hlt⟩
      obtain ⟨g, off, c, ha, hc1, hc2, hc3, _⟩ := HL.out.addr (fun hn => by rw [hn] at hlt; simp at hlt)
      simp at ha
      obtain ⟨rfl, rfl⟩ := ha
      obtain ⟨cs, hcs, hcell⟩ := HL.out.get hx
      have y3 : w1.cell? ⟨g, off + k * 4 + 3, none⟩ = some (.bool x.bad) := hcell 3 _ (by rw [hcs]; rfl)
      have HX := hid hx
      have HL' : Hid (0 < l.length) := by show 0 < l.length; omega
      clear hcell hcs hx
      rcases hb : x.bad with _ | _
      · rw [hb] at y3
        have HB := hid hb
        clear hb
        go_wp2_with fail
        go_round
        case rel => exact ⟨k + 1, by omega, by go_num, fun j x' hj hx' => by rcases Nat.lt_or_ge j k with h | h; exact HA.out j x' h hx'; obtain rfl : j = k := (by omega); rw [HX.out] at hx'; cases hx'; exact HB.out⟩
        case measure => simp [intOf]; omega
      · rw [hb] at y3
        have HB : Hid (Lib.validD s.data.toList = false) := HVV.out.symm.trans (all_not HX.out hb)
        clear hb
        go_wp2_with fail
        go_ret
        exact ⟨by rw [HB.out]; rfl, HK.out⟩
    · have hge : (l.length : Int) ≤ (k : Int) := by omega
      have HB : Hid (Lib.validD s.data.toList = true) := HVV.out.symm.trans (all_prefix HA.out (by omega))
      go_wp2_with fail
      go_ret
      exact ⟨by rw [HB.out]; rfl, HK.out⟩

set_option maxRecDepth 100000 in
theorem r1Count_any (s : ByteArray) (w : World) (hs : s.size ≤ 1000000) :
    Calls Tryz.prog 48 #[.string s] w fun e w' => e = .returned (.int .i64 (Lib.runeCount s)) ∧ Keeps [] w w' := by
  have HC : Hid ((pieces s.data.toList).length = Lib.runeCount s) := pieces_count s
  go_enter Tryz.func48, Tryz.ntmps48
  go_wp2_with fail
  refine (pieces_any s w hs).mono ?_
  rintro e w1 ⟨a, q, rfl, hf, hk⟩
  have HK := hid hk
  clear hk hf
  go_wp2_with fail
  go_ret
  exact ⟨by rw [← HC.out]; rfl, HK.out⟩

set_option maxRecDepth 100000 in
theorem ruCount_any (s : ByteArray) (w : World) (hs : s.size < 9223372036854775807) :
    Calls Tryz.prog 76 #[.string s] w fun e w' => e = .returned (.int .i64 (Lib.runeCount s)) ∧ Keeps [] w w' := by
  go_enter Tryz.func76, Tryz.ntmps76
  go_wp2_with fail
  refine (uCount_any s w hs).mono ?_
  rintro e w1 ⟨rfl, hk⟩
  have HK := hid hk
  clear hk
  go_wp2_with fail
  go_ret
  exact ⟨rfl, HK.out⟩

end Go.Proofs.YtnjdepojmnniaaaGreatDoor

/- quoted: a text between quotes. -/
namespace Go.Proofs.YtnjdepojmnniaaaGreatDoor
open Go Go.RowKit

theorem hexIdx (k : Nat) (hk : k < (⟨#[48, 49, 50, 51, 52, 53, 54, 55, 56, 57, 97, 98, 99, 100, 101, 102]⟩ : ByteArray).size) : ((⟨#[48, 49, 50, 51, 52, 53, 54, 55, 56, 57, 97, 98, 99, 100, 101, 102]⟩ : ByteArray)[k]'hk) = hexD k := by
  have h : ∀ k : Fin 16, (⟨#[48, 49, 50, 51, 52, 53, 54, 55, 56, 57, 97, 98, 99, 100, 101, 102]⟩ : ByteArray)[k.val] = hexD k.val := by decide
  exact h ⟨k, hk⟩
set_option maxRecDepth 100000 in
theorem and15 : ∀ x : Fin 160, bits .and .i32 ((x.val : Nat) : Int) 15 = ((x.val % 16 : Nat) : Int) := by decide
theorem byteCells_one' (c : UInt8) : Lib.byteCells [c] = [.int .u8 c.toNat] := rfl

end Go.Proofs.YtnjdepojmnniaaaGreatDoor
