/- Joined of Lays, VaC, VaE, VaG, VaH, VaX, RfB, RfC. -/
import Derived.Test.YtbbdmmhpbeleoaaGreatDoorQ00
import Derived.Test.YtbbdmmhpbeleoaaGreatDoorQ01
import Derived.BigCall
import Derived.Deep.DeepMust
import Derived.Lib.ItoaLen
import Derived.Lib.ValidLaws

/- HOW DATA LIE IN MEMORY, told once for each type: numbers, truths, bytes, lists of whatever lies; what may be read, what the call owns. No program is named here. -/
namespace Go.Proofs.YtbbdmmhpbeleoaaGreatDoor
open Go Go.RowKit

/-- How data of a type lie in cells; all blocks that they lead to meet P. -/
structure Lay (α : Type) where
  size : Nat
  pos : 0 < size
  at_ : World → (Nat → Prop) → List Value → α → Prop
  len : ∀ {w : World} {P : Nat → Prop} {cs : List Value} {a : α}, at_ w P cs a → cs.length = size
  one : ∀ {w : World} {P : Nat → Prop} {cs : List Value} {a : α}, at_ w P cs a → ∀ u ∈ cs, u.oneCell' = true
  keep : ∀ {w w' : World} {G : List Nat} {P : Nat → Prop} {cs : List Value} {a : α}, at_ w P cs a → Keeps G w w' → (∀ b, P b → b ∉ G) → at_ w' P cs a
  mono : ∀ {w : World} {P P' : Nat → Prop} {cs : List Value} {a : α}, at_ w P cs a → (∀ b, b < w.heap.size → P b → P' b) → at_ w P' cs a

/-- A slice's blocks, where it has elements. -/
def Lies (P : Nat → Prop) (v : Value) (n : Nat) : Prop := n ≠ 0 → ∀ b ∈ ownB v, P b

theorem Reads.keepsL {G : List Nat} {w w' : World} {size n : Nat} {v : Value} {xs : List Value} {P : Nat → Prop} (h : Reads w size v n xs) (hl : Lies P v n) (k : Keeps G w w') (hP : ∀ b, P b → b ∉ G) : Reads w' size v n xs := by
  rcases Nat.eq_zero_or_pos n with rfl | hp
  · obtain ⟨h1, h | ⟨hp, _⟩⟩ := h
    · exact ⟨h1, .inl h⟩
    · omega
  · exact h.keeps k (fun b hb => hP b (hl (by omega) b hb))

theorem Reads.lt {w : World} {size n : Nat} {v : Value} {xs : List Value} (h : Reads w size v n xs) (hn : n ≠ 0) : ∀ b ∈ ownB v, b < w.heap.size := by
  intro b hb
  rcases h.2 with ⟨h0, _⟩ | ⟨_, b', off, c, rfl, _, _, hl, _⟩
  · exact absurd h0 hn
  · simp [mem_ownB, Value.ownBlock] at hb
    omega

theorem Lies.mono {P P' : Nat → Prop} {w : World} {size n : Nat} {v : Value} {xs : List Value} (h : Lies P v n) (hr : Reads w size v n xs) (hP : ∀ b, b < w.heap.size → P b → P' b) : Lies P' v n :=
  fun hn b hb => hP b (hr.lt hn b hb) (h hn b hb)

theorem Reads.form {w : World} {size n : Nat} {v : Value} {xs : List Value} (h : Reads w size v n xs) : ∃ a c, v = .slice a n c := by
  rcases h.2 with ⟨h0, a, c, rfl⟩ | ⟨_, b, off, c, rfl, _⟩
  · exact ⟨a, c, by rw [h0]⟩
  · exact ⟨_, _, rfl⟩

/-! Bytes. -/
def BytesAt (w : World) (P : Nat → Prop) (v : Value) (bs : List UInt8) : Prop := Reads w 1 v bs.length (u8s bs) ∧ Lies P v bs.length
theorem BytesAt.keep {G : List Nat} {w w' : World} {v : Value} {P : Nat → Prop} {bs : List UInt8} (h : BytesAt w P v bs) (k : Keeps G w w') (hP : ∀ b, P b → b ∉ G) : BytesAt w' P v bs := ⟨h.1.keepsL h.2 k hP, h.2⟩
theorem BytesAt.k {w w' : World} {v : Value} {P : Nat → Prop} {bs : List UInt8} (h : BytesAt w P v bs) (k : Keeps [] w w') : BytesAt w' P v bs := h.keep k (fun _ _ h => by cases h)
theorem BytesAt.mono {w : World} {v : Value} {P P' : Nat → Prop} {bs : List UInt8} (h : BytesAt w P v bs) (hP : ∀ b, b < w.heap.size → P b → P' b) : BytesAt w P' v bs := ⟨h.1, h.2.mono h.1 hP⟩
theorem BytesAt.form {w : World} {v : Value} {P : Nat → Prop} {bs : List UInt8} (h : BytesAt w P v bs) : ∃ a c, v = .slice a bs.length c := h.1.form
theorem BytesAt.nil (w : World) (P : Nat → Prop) (a : Option Addr) (c : Nat) : BytesAt w P (.slice a 0 c) [] := ⟨⟨rfl, .inl ⟨rfl, _, _, rfl⟩⟩, fun h => absurd rfl h⟩
theorem BytesAt.ofOwn {w : World} {base e : Nat} {v : Value} {P : Nat → Prop} {bs : List UInt8} {n : Nat} (h : w.ownsRow base e 1 v n (u8s bs)) (hn : n = bs.length) (hP : ∀ b, base ≤ b → b < w.heap.size → P b) : BytesAt w P v bs := by
  subst hn
  exact ⟨Reads.ofOwn h, fun _ b hb => hP b (ownB_ge h b hb).1 (ownB_ge h b hb).2⟩
theorem slice_one (v : Value) (h : ∃ a n c, v = .slice a n c) : v.oneCell' = true := by
  obtain ⟨_, _, _, rfl⟩ := h
  rfl

def Lay.bytes : Lay (List UInt8) where
  size := 1
  pos := by decide
  at_ w P cs bs := ∃ v, cs = [v] ∧ BytesAt w P v bs
  len := fun ⟨v, e, _⟩ => by rw [e]; rfl
  one := fun ⟨v, e, h⟩ u hu => by
    rw [e] at hu
    simp at hu
    subst hu
    obtain ⟨a, c, rfl⟩ := h.form
    rfl
  keep := fun ⟨v, e, h⟩ k hP => ⟨v, e, h.keep k hP⟩
  mono := fun ⟨v, e, h⟩ hP => ⟨v, e, h.mono hP⟩

/-! Lists. -/
section
variable {α : Type} (L : Lay α)

/-- What elements lie in: cells by cells. -/
def ElemsAt (w : World) (P : Nat → Prop) (css : List (List Value)) (l : List α) : Prop := css.length = l.length ∧ ∀ (i : Nat) (cs : List Value) (a : α), css[i]? = some cs → l[i]? = some a → L.at_ w P cs a

variable {L}
theorem ElemsAt.keep {G : List Nat} {w w' : World} {P : Nat → Prop} {css : List (List Value)} {l : List α} (h : ElemsAt L w P css l) (k : Keeps G w w') (hP : ∀ b, P b → b ∉ G) : ElemsAt L w' P css l := ⟨h.1, fun i cs a h1 h2 => L.keep (h.2 i cs a h1 h2) k hP⟩
theorem ElemsAt.mono {w : World} {P P' : Nat → Prop} {css : List (List Value)} {l : List α} (h : ElemsAt L w P css l) (hP : ∀ b, b < w.heap.size → P b → P' b) : ElemsAt L w P' css l := ⟨h.1, fun i cs a h1 h2 => L.mono (h.2 i cs a h1 h2) hP⟩
theorem ElemsAt.nil (w : World) (P : Nat → Prop) : ElemsAt L w P [] [] := ⟨rfl, fun i cs a h => by simp at h⟩
theorem ElemsAt.snoc {w : World} {P : Nat → Prop} {css : List (List Value)} {l : List α} {cs : List Value} {a : α} (h : ElemsAt L w P css l) (h1 : L.at_ w P cs a) : ElemsAt L w P (css ++ [cs]) (l ++ [a]) := by
  refine ⟨by simp [h.1], fun i cs' a' hc ha => ?_⟩
  rw [List.getElem?_append] at hc ha
  rw [h.1] at hc
  split at hc <;> split at ha
  · exact h.2 i _ _ hc ha
  · omega
  · omega
  · have e : i - l.length = 0 := by
      have := (List.getElem?_eq_some_iff.1 hc).1
      simp at this
      omega
    rw [e] at hc ha
    simp at hc ha
    subst hc ha
    exact h1
theorem ElemsAt.append {w : World} {P : Nat → Prop} {css css2 : List (List Value)} {l l2 : List α} (h : ElemsAt L w P css l) (h2 : ElemsAt L w P css2 l2) : ElemsAt L w P (css ++ css2) (l ++ l2) := by
  refine ⟨by simp [h.1, h2.1], fun i cs' a' hc ha => ?_⟩
  rw [List.getElem?_append] at hc ha
  rw [h.1] at hc
  split at hc <;> split at ha
  · exact h.2 i _ _ hc ha
  · omega
  · omega
  · exact h2.2 _ _ _ hc ha
theorem ElemsAt.take {w : World} {P : Nat → Prop} {css : List (List Value)} {l : List α} (h : ElemsAt L w P css l) (n : Nat) : ElemsAt L w P (css.take n) (l.take n) := by
  refine ⟨by simp [h.1], fun i cs' a' hc ha => ?_⟩
  rw [List.getElem?_take] at hc ha
  split at hc
  · rename_i hi
    rw [if_pos hi] at ha
    exact h.2 i _ _ hc ha
  · cases hc
theorem ElemsAt.drop {w : World} {P : Nat → Prop} {css : List (List Value)} {l : List α} (h : ElemsAt L w P css l) (n : Nat) : ElemsAt L w P (css.drop n) (l.drop n) := by
  refine ⟨by simp [h.1], fun i cs' a' hc ha => ?_⟩
  rw [List.getElem?_drop] at hc ha
  exact h.2 _ _ _ hc ha
theorem ElemsAt.lens {w : World} {P : Nat → Prop} {css : List (List Value)} {l : List α} (h : ElemsAt L w P css l) : ∀ cs ∈ css, cs.length = L.size := by
  intro cs hc
  obtain ⟨i, hi, rfl⟩ := List.mem_iff_getElem.1 hc
  exact L.len (h.2 i _ _ (List.getElem?_eq_getElem hi) (List.getElem?_eq_getElem (by rw [← h.1]; exact hi)))
theorem ElemsAt.one {w : World} {P : Nat → Prop} {css : List (List Value)} {l : List α} (h : ElemsAt L w P css l) : ∀ u ∈ css.flatten, u.oneCell' = true := by
  intro u hu
  obtain ⟨cs, hc, hu⟩ := List.mem_flatten.1 hu
  obtain ⟨i, hi, rfl⟩ := List.mem_iff_getElem.1 hc
  exact L.one (h.2 i _ _ (List.getElem?_eq_getElem hi) (List.getElem?_eq_getElem (by rw [← h.1]; exact hi))) u hu

theorem flatten_length {css : List (List Value)} {n : Nat} (h : ∀ cs ∈ css, cs.length = n) : css.flatten.length = css.length * n := by
  induction css with
  | nil => simp
  | cons c r ih =>
    rw [List.flatten_cons, List.length_append, ih (fun x hx => h x (List.mem_cons_of_mem _ hx)), h c (by simp), List.length_cons, Nat.add_mul]
    omega
theorem flatten_get {n : Nat} : ∀ {css : List (List Value)} (_ : ∀ cs ∈ css, cs.length = n) {i j : Nat} {cs : List Value} (_ : css[i]? = some cs) (_ : j < n), css.flatten[i * n + j]? = cs[j]?
  | [], _, i, j, cs, h, _ => by simp at h
  | c :: r, hl, 0, j, cs, h, hj => by
    simp at h
    subst h
    have := hl c (by simp)
    rw [List.flatten_cons, List.getElem?_append_left (by omega)]
    simp
  | c :: r, hl, i + 1, j, cs, h, hj => by
    have hc := hl c (by simp)
    have h1 : (i + 1) * n + j - c.length = i * n + j := by rw [hc, Nat.add_mul]; omega
    rw [List.flatten_cons, List.getElem?_append_right (by rw [hc, Nat.add_mul]; omega), h1]
    exact flatten_get (fun x hx => hl x (List.mem_cons_of_mem _ hx)) (by simpa using h) hj
theorem flatten_take {n : Nat} : ∀ {css : List (List Value)} (_ : ∀ cs ∈ css, cs.length = n) (k : Nat), css.flatten.take (k * n) = (css.take k).flatten
  | [], _, k => by simp
  | c :: r, hl, 0 => by simp
  | c :: r, hl, k + 1 => by
    have hc := hl c (by simp)
    rw [List.flatten_cons, List.take_succ_cons, List.flatten_cons, List.take_append, hc, List.take_of_length_le (by rw [hc, Nat.add_mul]; omega), show (k + 1) * n - n = k * n by rw [Nat.add_mul]; omega, flatten_take (fun x hx => hl x (List.mem_cons_of_mem _ hx)) k]
theorem flatten_drop {n : Nat} : ∀ {css : List (List Value)} (_ : ∀ cs ∈ css, cs.length = n) (k : Nat), css.flatten.drop (k * n) = (css.drop k).flatten
  | [], _, k => by simp
  | c :: r, hl, 0 => by simp
  | c :: r, hl, k + 1 => by
    have hc := hl c (by simp)
    rw [List.flatten_cons, List.drop_succ_cons, List.drop_append, hc, List.drop_of_length_le (by rw [hc, Nat.add_mul]; omega), List.nil_append, show (k + 1) * n - n = k * n by rw [Nat.add_mul]; omega, flatten_drop (fun x hx => hl x (List.mem_cons_of_mem _ hx)) k]

variable (L)
/-- A slice that may be read. -/
def ListAt (w : World) (P : Nat → Prop) (v : Value) (l : List α) : Prop := ∃ css, ElemsAt L w P css l ∧ Reads w L.size v l.length css.flatten ∧ Lies P v l.length
/-- A slice whose row the call owns: its elements' own blocks meet P. -/
def OwnAt (et : TypeId) (w : World) (base : Nat) (P : Nat → Prop) (v : Value) (l : List α) : Prop := ∃ css, ElemsAt L w P css l ∧ w.ownsRow base et L.size v l.length css.flatten

variable {L}
theorem ListAt.keep {G : List Nat} {w w' : World} {P : Nat → Prop} {v : Value} {l : List α} (h : ListAt L w P v l) (k : Keeps G w w') (hP : ∀ b, P b → b ∉ G) : ListAt L w' P v l := by
  obtain ⟨css, h1, h2, h3⟩ := h
  exact ⟨css, h1.keep k hP, h2.keepsL h3 k hP, h3⟩
theorem ListAt.k {w w' : World} {P : Nat → Prop} {v : Value} {l : List α} (h : ListAt L w P v l) (k : Keeps [] w w') : ListAt L w' P v l := h.keep k (fun _ _ h => by cases h)
theorem ListAt.mono {w : World} {P P' : Nat → Prop} {v : Value} {l : List α} (h : ListAt L w P v l) (hP : ∀ b, b < w.heap.size → P b → P' b) : ListAt L w P' v l := by
  obtain ⟨css, h1, h2, h3⟩ := h
  exact ⟨css, h1.mono hP, h2, h3.mono h2 hP⟩
theorem ListAt.form {w : World} {P : Nat → Prop} {v : Value} {l : List α} (h : ListAt L w P v l) : ∃ a c, v = .slice a l.length c := by
  obtain ⟨css, _, h2, _⟩ := h
  exact h2.form
theorem ListAt.nil (w : World) (P : Nat → Prop) (a : Option Addr) (c : Nat) : ListAt L w P (.slice a 0 c) [] := ⟨[], ElemsAt.nil w P, ⟨by simp, .inl ⟨rfl, _, _, rfl⟩⟩, fun h => absurd rfl h⟩
theorem ListAt.addr {w : World} {P : Nat → Prop} {v : Value} {l : List α} (h : ListAt L w P v l) (hn : l ≠ []) : ∃ b off c, v = .slice (some ⟨b, off, none⟩) l.length c ∧ l.length ≤ c ∧ c ≤ maxLen ∧ b < w.heap.size ∧ P b := by
  obtain ⟨css, _, h2, h3⟩ := h
  have hl : l.length ≠ 0 := fun e => hn (List.eq_nil_of_length_eq_zero e)
  rcases h2.2 with ⟨h0, _⟩ | ⟨_, b, off, c, rfl, h4, h5, h6, _⟩
  · exact absurd h0 hl
  · exact ⟨b, off, c, rfl, h4, h5, h6, h3 hl b (by simp [mem_ownB, Value.ownBlock])⟩
/-- An element's cells. -/
theorem ListAt.get {w : World} {P : Nat → Prop} {b off n c : Nat} {l : List α} (h : ListAt L w P (.slice (some ⟨b, off, none⟩) n c) l) {i : Nat} {a : α} (ha : l[i]? = some a) :
    ∃ cs, L.at_ w P cs a ∧ ∀ j u, cs[j]? = some u → w.cell? ⟨b, off + i * L.size + j, none⟩ = some u := by
  obtain ⟨css, h1, h2, _⟩ := h
  have hi : i < l.length := (List.getElem?_eq_some_iff.1 ha).1
  have hc : css[i]? = some (css[i]'(by rw [h1.1]; exact hi)) := List.getElem?_eq_getElem _
  refine ⟨_, h1.2 i _ _ hc ha, fun j u hu => ?_⟩
  have hj : j < L.size := by
    have := (List.getElem?_eq_some_iff.1 hu).1
    rwa [L.len (h1.2 i _ _ hc ha)] at this
  rcases h2.2 with ⟨h0, _⟩ | ⟨_, b', off', c', e, _, _, _, hx⟩
  · omega
  · simp at e
    obtain ⟨⟨rfl, rfl⟩, _⟩ := e
    have := hx (i * L.size + j) u (by rw [flatten_get h1.lens hc hj]; exact hu)
    rw [← Nat.add_assoc] at this
    exact this
/-- A piece of it. -/
theorem ListAt.piece {w : World} {P : Nat → Prop} {b off n c : Nat} {l : List α} (h : ListAt L w P (.slice (some ⟨b, off, none⟩) n c) l) (i m c' : Nat) (a : Option Addr) (him : i + m ≤ l.length) (hc : m ≤ c') (hcm : c' ≤ maxLen) (ha : 0 < m → a = some ⟨b, off + i * L.size, none⟩) :
    ListAt L w P (.slice a m c') ((l.drop i).take m) := by
  obtain ⟨css, h1, h2, h3⟩ := h
  have hlm : ((l.drop i).take m).length = m := by simp; omega
  refine ⟨(css.drop i).take m, (h1.drop i).take m, ?_, ?_⟩
  · have hlen : ((css.drop i).take m).flatten.length = m * L.size := by
      rw [flatten_length (n := L.size) (fun cs hcs => h1.lens cs (List.mem_of_mem_drop (List.mem_of_mem_take hcs)))]
      have := h1.1
      simp only [List.length_take, List.length_drop]
      rw [show min m (css.length - i) = m by omega]
    rw [hlm]
    refine ⟨hlen, ?_⟩
    rcases Nat.eq_zero_or_pos m with rfl | hp
    · exact .inl ⟨rfl, _, _, rfl⟩
    · rcases h2.2 with ⟨h0, _⟩ | ⟨_, b', off', c2, e, _, _, hb, hx⟩
      · omega
      · simp at e
        obtain ⟨⟨rfl, rfl⟩, _⟩ := e
        refine .inr ⟨hp, b, off + i * L.size, c', by rw [ha hp], hc, hcm, hb, fun j u hu => ?_⟩
        have hj : j < m * L.size := by
          have := (List.getElem?_eq_some_iff.1 hu).1
          omega
        rw [← flatten_take (n := L.size) (fun cs hcs => h1.lens cs (List.mem_of_mem_drop hcs)), List.getElem?_take, if_pos hj, ← flatten_drop h1.lens, List.getElem?_drop] at hu
        rw [Nat.add_assoc]
        exact hx _ u hu
  · intro hm b' hb'
    rw [hlm] at hm
    rw [ha (by omega)] at hb'
    exact h3 (by omega) b' (by simpa [mem_ownB, Value.ownBlock] using hb')

theorem OwnAt.nil (et : TypeId) (w : World) (base : Nat) (P : Nat → Prop) : OwnAt L et w base P (.slice none 0 0) [] := ⟨[], ElemsAt.nil w P, World.ownsRow_nil w base et L.size⟩
theorem OwnAt.form {et : TypeId} {w : World} {base : Nat} {P : Nat → Prop} {v : Value} {l : List α} (h : OwnAt L et w base P v l) : ∃ a c, v = .slice a l.length c := by
  obtain ⟨css, _, h2⟩ := h
  exact len_form h2
theorem OwnAt.list {et : TypeId} {w : World} {base : Nat} {P P' : Nat → Prop} {v : Value} {l : List α} (h : OwnAt L et w base P v l) (hP : ∀ b, b < w.heap.size → P b → P' b) (hv : ∀ b ∈ ownB v, P' b) : ListAt L w P' v l := by
  obtain ⟨css, h1, h2⟩ := h
  exact ⟨css, h1.mono hP, Reads.ofOwn h2, fun _ => hv⟩
theorem OwnAt.ge {et : TypeId} {w : World} {base : Nat} {P : Nat → Prop} {v : Value} {l : List α} (h : OwnAt L et w base P v l) : ∀ b ∈ ownB v, base ≤ b ∧ b < w.heap.size := by
  obtain ⟨css, _, h2⟩ := h
  exact ownB_ge h2
theorem OwnAt.keep {G : List Nat} {et : TypeId} {w w' : World} {base : Nat} {P : Nat → Prop} {v : Value} {l : List α} (h : OwnAt L et w base P v l) (k : Keeps G w w') (hv : ∀ b ∈ ownB v, b ∉ G) (hP : ∀ b, P b → b ∉ G) : OwnAt L et w' base P v l := by
  obtain ⟨css, h1, h2⟩ := h
  exact ⟨css, h1.keep k hP, ownsRow_keeps h2 k hv⟩
theorem OwnAt.k {et : TypeId} {w w' : World} {base : Nat} {P : Nat → Prop} {v : Value} {l : List α} (h : OwnAt L et w base P v l) (k : Keeps [] w w') : OwnAt L et w' base P v l := h.keep k (fun _ _ h => by cases h) (fun _ _ h => by cases h)
theorem OwnAt.mono {et : TypeId} {w : World} {base : Nat} {P P' : Nat → Prop} {v : Value} {l : List α} (h : OwnAt L et w base P v l) (hP : ∀ b, b < w.heap.size → P b → P' b) : OwnAt L et w base P' v l := by
  obtain ⟨css, h1, h2⟩ := h
  exact ⟨css, h1.mono hP, h2⟩
theorem OwnAt.base {et : TypeId} {w : World} {base base' : Nat} {P : Nat → Prop} {v : Value} {l : List α} (h : OwnAt L et w base P v l) (hb : base' ≤ base) : OwnAt L et w base' P v l := by
  obtain ⟨css, h1, h2⟩ := h
  exact ⟨css, h1, ownsRow_base h2 hb⟩
end

section
variable {α : Type} {L : Lay α} {P : Program} {ops : Array Oper} {rest : List Oper} {o : Oper} {a : Act} {Q : Exit → Act → World → Prop} (w : World)

/-- append(own, src...): the row grows by what the source reads. -/
theorem wpList_append_lay (hgd : o.guard = none) (s x : Operand) (t : TypeId)
    (ho : o.op = .call { callee := .builtin .append, args := #[s, x], argTypes := #[t, t] })
    (base e : TypeId) (i : TypeInfo) (z : Value) (bytes : Nat) (ht : P.underlying t = some (.slice e)) (hi : P.info? e = some i) (hz : i.zero = some z)
    (hsize : i.size = L.size) (hby : i.bytes = bytes) (hzs : z.cells.size = L.size)
    {PA PB PC : Nat → Prop} (v : Value) (hs : a.eval s = v) (l l2 : List α) (css2 : List (List Value)) (hown : OwnAt L e w base PA v l) (src : Value) (hx : a.eval x = src) (n2 : Nat) (hn2 : l2.length = n2) (h3 : ElemsAt L w PB css2 l2) (h4 : Reads w L.size src n2 css2.flatten) (hbytes : (l.length + n2) * bytes ≤ 140737488355328) (h63 : l.length + n2 ≤ maxLen) (hbase : base ≤ w.heap.size)
    (hA : ∀ b, b < w.heap.size → PA b → PC b) (hB : ∀ b, b < w.heap.size → PB b → PC b) (hC : ∀ b, PC b → b ∉ ownB v)
    (h : ∀ a' c' w', Hid (OwnAt L e w' base PC (.slice a' (l.length + n2) c') (l ++ l2)) → Hid (Keeps (ownB v) w w') → Hid ((Value.slice a' (l.length + n2) c').ownBlock = v.ownBlock ∨ (Value.slice a' (l.length + n2) c').ownBlock = some w.heap.size) → wpList P ops Q rest (a.put o.dst (.slice a' (l.length + n2) c')) w') : wpList P ops Q (o :: rest) a w := by
  subst hn2
  obtain ⟨css, h1, h2⟩ := hown
  refine wpList_append_reads w hgd s x t ho base e i z L.size bytes ht hi hz hsize hby hzs L.pos v hs l.length css.flatten h2 src hx l2.length css2.flatten h4 h3.one hbytes h63 hbase fun a' c' w' g1 g2 g3 g4 => ?_
  have k : Keeps (ownB v) w w' := Keeps.ofGrown g2.out (fun k h => mem_ownB.2 h)
  refine h a' c' w' ⟨css ++ css2, ((h1.mono hA).keep k hC).append ((h3.mono hB).keep k hC), ?_⟩ k g3
  have := g1.out
  rwa [List.length_append, List.flatten_append]
end

/-- The same where the elements' blocks are known to lie off the row: they lie off the new one. -/
theorem wpList_append_off {α : Type} {L : Lay α} {P : Program} {ops : Array Oper} {rest : List Oper} {o : Oper} {a : Act} {Q : Exit → Act → World → Prop} (w : World) (hgd : o.guard = none) (s x : Operand) (t : TypeId)
    (ho : o.op = .call { callee := .builtin .append, args := #[s, x], argTypes := #[t, t] })
    (base e : TypeId) (i : TypeInfo) (z : Value) (bytes : Nat) (ht : P.underlying t = some (.slice e)) (hi : P.info? e = some i) (hz : i.zero = some z)
    (hsize : i.size = L.size) (hby : i.bytes = bytes) (hzs : z.cells.size = L.size)
    {R PB : Nat → Prop} (v : Value) (hs : a.eval s = v) (l l2 : List α) (n1 : Nat) (hn1 : l.length = n1) (css2 : List (List Value)) (hown : OwnAt L e w base (fun b => R b ∧ b ∉ ownB v) v l) (src : Value) (hx : a.eval x = src) (n2 : Nat) (hn2 : l2.length = n2) (h3 : ElemsAt L w PB css2 l2) (h4 : Reads w L.size src n2 css2.flatten) (hbytes : (n1 + n2) * bytes ≤ 140737488355328) (h63 : n1 + n2 ≤ maxLen) (hbase : base ≤ w.heap.size)
    (hB : ∀ b, b < w.heap.size → PB b → R b ∧ b ∉ ownB v)
    (h : ∀ a' c' w', Hid (OwnAt L e w' base (fun b => R b ∧ b ∉ ownB (.slice a' (n1 + n2) c')) (.slice a' (n1 + n2) c') (l ++ l2)) → Hid (Keeps (ownB v) w w') → Hid (∀ b ∈ ownB (.slice a' (n1 + n2) c'), b ∈ ownB v ∨ w.heap.size ≤ b) → wpList P ops Q rest (a.put o.dst (.slice a' (n1 + n2) c')) w') : wpList P ops Q (o :: rest) a w := by
  subst hn1
  refine wpList_append_lay w hgd s x t ho base e i z bytes ht hi hz hsize hby hzs (PC := fun b => (R b ∧ b ∉ ownB v) ∧ b < w.heap.size) v hs l l2 css2 hown src hx n2 hn2 h3 h4 hbytes h63 hbase (fun b h1 h2 => ⟨h2, h1⟩) (fun b h1 h2 => ⟨hB b h1 h2, h1⟩) (fun b h => h.1.2) fun a' c' w' g1 g2 g3 => ?_
  have hv : ∀ b ∈ ownB (.slice a' (l.length + n2) c'), b ∈ ownB v ∨ w.heap.size ≤ b := fun b hb => by
    rw [mem_ownB] at hb ⊢
    rcases g3.out with g | g
    · exact .inl (by rw [← g]; exact hb)
    · rw [g] at hb
      simp at hb
      omega
  refine h a' c' w' (OwnAt.mono g1.out fun b _ hb => ⟨hb.1.1, fun hb' => ?_⟩) g2 hv
  rcases hv b hb' with h | h
  · exact hb.1.2 h
  · omega

/-- One element, as a slice of it is built. -/
theorem ElemsAt.one1 {α : Type} {L : Lay α} {w : World} {P : Nat → Prop} {cs : List Value} {a : α} (h : L.at_ w P cs a) : ElemsAt L w P [cs] [a] := by
  have := (ElemsAt.nil (L := L) w P).snoc h
  simpa using this
theorem Reads.one1 {w : World} {B n : Nat} {cs : Array Value} {t : TypeId} {fr : Nat × Nat} (hb : w.heap[B]? = some (.cells cs t fr)) (hs : cs.size = n) : Reads w n (.slice (some ⟨B, 0, none⟩) 1 1) 1 [cs.toList].flatten := by
  have := Reads.ofBlock (n := 1) (size := n) hb (by omega) (by unfold maxLen; omega)
  simpa using this

end Go.Proofs.YtbbdmmhpbeleoaaGreatDoor

/- palaverref01's Pieces, Valid, Count. -/
namespace Go.Proofs.YtbbdmmhpbeleoaaGreatDoor
open Go Go.RowKit

def pcC (p : Pc) : List Value := [.int .i64 p.at_, .int .i64 p.n, .int .i32 p.r, .bool p.bad]
def pcL : Lay Pc where
  size := 4
  pos := by decide
  at_ _ _ cs p := cs = pcC p
  len := fun e => by rw [e]; rfl
  one := fun e u hu => by
    rw [e] at hu
    simp [pcC] at hu
    rcases hu with rfl | rfl | rfl | rfl <;> rfl
  keep := fun e _ _ => e
  mono := fun e _ => e
theorem Tryz.infoPc : (Tryz.prog.info? 128).map (fun i => (i.zero, i.size, i.bytes)) = some (some (.agg #[.int .i64 0, .int .i64 0, .int .i32 0, .bool false]), 4, 24) := by kernel_rfl

def FreshPcs (w w' : World) (v : Value) (l : List Pc) : Prop := OwnAt pcL 128 w' w.heap.size (fun b => w.heap.size ≤ b ∧ b ∉ ownB v) v l
def PcsPost (s : ByteArray) (w : World) (e : Ending) (w' : World) : Prop := ∃ a q, e = .returned (.slice a (pieces s.data.toList).length q) ∧ FreshPcs w w' (.slice a (pieces s.data.toList).length q) (pieces s.data.toList) ∧ Keeps [] w w'

set_option maxRecDepth 100000 in
set_option maxHeartbeats 1600000 in
theorem pieces_any (s : ByteArray) (w : World) (hs : s.size ≤ 1000000) :
    Calls Tryz.prog 91 #[.string s] w (PcsPost s w) := by
  obtain ⟨it, hi0, hz0, hz1, hz2⟩ := info_parts Tryz.infoPc
  have HL : Hid (s.data.toList.length = s.size) := Array.length_toList
  go_enter Tryz.func91, Tryz.ntmps91
  go_wp2_with fail
  go_loopw [3, 4] (fun v i wr => ∃ (d : List Pc) (k p : Nat) (a : Option Addr) (q : Nat), p ≤ s.size ∧ k ≤ p ∧ v = .slice a k q ∧ i = .int .i64 p ∧ Hid (d.length = k ∧ PcsAt s.data.toList d p ∧ FreshPcs w wr (.slice a k q) d ∧ Keeps [] w wr)) (fun _ i _ => s.size - (intOf i).toNat)
  case atStart => exact ⟨[], 0, 0, none, 0, Nat.zero_le _, Nat.le_refl _, rfl, rfl, rfl, PcsAt.zero _, OwnAt.nil _ _ _ _, Keeps.refl [] w⟩
  case round =>
    obtain ⟨d, k, p, a, q, hp, hkp, rfl, rfl, HW⟩ := hrel
    have i0 : (0 : Int) ≤ (p : Int) := Int.natCast_nonneg _
    by_cases hlt : p < s.size
    · have hlt' : (p : Int) < (s.size : Int) := by omega
      obtain ⟨x, hx⟩ : ∃ x, pcAt s p = x := ⟨_, rfl⟩
      have HXP : Hid (x.at_ = p) := by show _ = _; rw [← hx]; rfl
      have HX := hid hx
      have HN : Hid (PcsAt s.data.toList (d ++ [x]) (p + x.n) ∧ 1 ≤ x.n) := by
        have h1 := HW.out.2.1.next (by rw [HL.out]; exact hlt)
        rw [← hx]
        exact ⟨h1, Lib.decodeL_width _⟩
      have n0 : 1 ≤ x.n := HN.out.2
      have n1 : p + x.n ≤ s.size := by have := HN.out.1.1; rw [HL.out] at this; exact this
      have HZ : Hid (w.heap.size ≤ wr.heap.size) := HW.out.2.2.2.size
      clear hx
      go_wp2_with fail
      refine (one_any s p _ hlt (by omega)).mono ?_
      rintro e w3 ⟨rfl, hk3⟩
      rw [HX.out]
      unfold pcV
      rw [HXP.out]
      have HRW : Hid (((w3.alloc (.cells #[.int .i64 p, .int .i64 x.n, .int .i32 x.r, .bool x.bad] 128)).alloc (.cells #[.int .i64 p, .int .i64 x.n, .int .i32 x.r, .bool x.bad] 128)).heap[w3.heap.size + 1]? = some (.cells #[.int .i64 p, .int .i64 x.n, .int .i32 x.r, .bool x.bad] 128 (0, 0))) := by
        have h1 := heap_alloc_new (w3.alloc (.cells #[.int .i64 p, .int .i64 x.n, .int .i32 x.r, .bool x.bad] 128)) (.cells #[.int .i64 p, .int .i64 x.n, .int .i32 x.r, .bool x.bad] 128)
        rw [show (w3.alloc (.cells #[.int .i64 p, .int .i64 x.n, .int .i32 x.r, .bool x.bad] 128)).heap.size = w3.heap.size + 1 by simp] at h1
        exact h1
      have K3 := hid hk3
      have HOW : Hid (OwnAt pcL 128 w3 w.heap.size (fun b => w.heap.size ≤ b ∧ b ∉ ownB (.slice a k q)) (.slice a k q) d) := OwnAt.k HW.out.2.2.1 hk3
      have HTL : Hid (d.length = k) := HW.out.1
      have HOB : Hid (∀ b ∈ ownB (.slice a k q), w.heap.size ≤ b ∧ b < w3.heap.size) := fun b hb => ⟨(OwnAt.ge HOW.out b hb).1, Nat.lt_of_lt_of_le (OwnAt.ge HW.out.2.2.1 b hb).2 K3.out.size⟩
      clear hk3
      go_wp2_with (at_builtin; go_must (refine wpList_append_off (L := pcL) (PB := fun _ => False) _ (by rfl) _ _ _ (by rfl) w.heap.size 128 it _ 24 Tryz.underlying121 hi0 hz0 hz1 hz2 rfl (R := fun b => w.heap.size ≤ b) (.slice a k q) (by rfl) d [x] k HTL.out [[.int .i64 p, .int .i64 x.n, .int .i32 x.r, .bool x.bad]] (HOW.out.k (by exact Keeps.K)) (.slice _ _ _) (by rfl) 1 rfl (ElemsAt.one1 (by show _ = pcC x; unfold pcC; rw [HXP.out])) (Reads.one1 HRW.out rfl) (by omega) (le_maxLen (by omega)) (by exact Nat.le_trans HZ.out (Nat.le_trans K3.out.size (Keeps.size (F := []) (by exact Keeps.K)))) (fun b _ hb => hb.elim) ?_; intro a4 q4 w4 ho4 hk4 hv4; have y1 : w4.cell? ⟨w3.heap.size, 1, none⟩ = some (.int .i64 x.n) := hk4.out.cellSome (by go_simp) (fun hb => Nat.lt_irrefl _ (HOB.out _ hb).2)))
      go_roundw
      case rel => exact ⟨d ++ [x], k + 1, p + x.n, a4, q4, n1, by omega, rfl, by go_num, by simp [HW.out.1], HN.out.1, ho4.out, ((HW.out.2.2.2.trans K3.out (fun _ _ h => h)).trans (by exact Keeps.K) (fun _ _ h => h)).trans hk4.out (fun b hb hb' => absurd hb (Nat.not_lt.2 (HOB.out b hb').1))⟩
      case measure => simp [intOf]; omega
    · have hge : (s.size : Int) ≤ (p : Int) := by omega
      have HE : Hid (d = pieces s.data.toList ∧ p = s.data.toList.length) := HW.out.2.1.end_ (by rw [HL.out]; exact hlt)
      go_wp2_with fail
      go_ret
      have h1 := HW.out
      rw [HE.out.1] at h1
      refine ⟨a, q, by rw [h1.1]; rfl, by rw [h1.1]; exact h1.2.2.1, h1.2.2.2⟩

end Go.Proofs.YtbbdmmhpbeleoaaGreatDoor

/- palaverref01's Valid, Count; the program's runes.Valid, Count; values' checks, both ways. -/
namespace Go.Proofs.YtbbdmmhpbeleoaaGreatDoor
open Go Go.RowKit

theorem blk3 {w : World} {b : Nat} {x0 x1 x2 : Value} {t : TypeId} (h : w.heap[b]? = some (.cells #[x0, x1, x2] t (0, 0))) :
    (w.cell? ⟨b, 0, none⟩ = some x0 ∧ w.cell? ⟨b, 1, none⟩ = some x1 ∧ w.cell? ⟨b, 2, none⟩ = some x2) ∧ ∀ i, w.frozen? ⟨b, i, none⟩ = false :=
  ⟨⟨cell_of_block h 0, cell_of_block h 1, cell_of_block h 2⟩, fun i => frozen_of_row w b i _ _ h⟩
theorem fresh_pcs {w w' : World} {v : Value} {l : List Pc} (h : FreshPcs w w' v l) : ListAt pcL w' (fun b => w.heap.size ≤ b) v l := OwnAt.list h (fun b _ hb => hb.1) (fun b hb => (OwnAt.ge h b hb).1)
theorem all_prefix {l : List Pc} {k : Nat} (h : ∀ j x, j < k → l[j]? = some x → x.bad = false) (hk : l.length ≤ k) : l.all (fun x => !x.bad) = true := by
  rw [List.all_eq_true]
  intro x hx
  obtain ⟨j, hj⟩ := List.getElem?_of_mem hx
  have hlt : j < l.length := (List.getElem?_eq_some_iff.1 hj).1
  rw [h j x (by omega) hj]; rfl
theorem all_not {l : List Pc} {k : Nat} {x : Pc} (h : l[k]? = some x) (hb : x.bad = true) : l.all (fun x => !x.bad) = false := by
  rw [Bool.eq_false_iff]
  intro ha
  have := List.all_eq_true.1 ha x (List.mem_of_getElem? h)
  rw [hb] at this
  cases this

set_option maxRecDepth 100000 in
theorem r1Valid_any (s : ByteArray) (w : World) (hs : s.size ≤ 1000000) :
    Calls Tryz.prog 75 #[.string s] w fun e w' => e = .returned (.bool (Lib.validD s.data.toList)) ∧ Keeps [] w w' := by
  have HV : Hid ((pieces s.data.toList).all (fun x => !x.bad) = Lib.validD s.data.toList) := pieces_valid _
  have hln := pieces_le s.data.toList
  have hsz : s.data.toList.length = s.size := Array.length_toList
  rw [hsz] at hln
  clear hsz
  go_enter Tryz.func75, Tryz.ntmps75
  go_wp2_with fail
  refine (pieces_any s w hs).mono ?_
  rintro e w1 ⟨a, q, rfl, hf, hk⟩
  obtain ⟨l, hl⟩ : ∃ l, pieces s.data.toList = l := ⟨_, rfl⟩
  rw [hl] at hf hln ⊢
  have HVV : Hid (l.all (fun x => !x.bad) = Lib.validD s.data.toList) := by show _ = _; rw [← hl]; exact HV.out
  have HL := hid (fresh_pcs hf)
  have HK := hid hk
  clear hf hk hl HV
  go_wp2_with fail
  go_loop [4] (fun i => ∃ k : Nat, k ≤ l.length ∧ i = .int .i64 k ∧ Hid (∀ j x, j < k → l[j]? = some x → x.bad = false)) (fun i => l.length - (intOf i).toNat)
  case atStart => exact ⟨0, Nat.zero_le _, rfl, fun j x h _ => by omega⟩
  case round =>
    obtain ⟨k, hk, rfl, HA⟩ := hrel
    have i0 : (0 : Int) ≤ (k : Int) := Int.natCast_nonneg _
    by_cases hlt : k < l.length
    · have hlt' : (k : Int) < (l.length : Int) := by omega
      obtain ⟨x, hx⟩ : ∃ x, l[k]? = some x := ⟨_, List.getElem?_eq_getElem hlt⟩
      obtain ⟨g, off, c, ha, hc1, hc2, hc3, _⟩ := HL.out.addr (fun hn => by rw [hn] at hlt; simp at hlt)
      simp at ha
      obtain ⟨rfl, rfl⟩ := ha
      obtain ⟨cs, hcs, hcell⟩ := HL.out.get hx
      have y3 : w1.cell? ⟨g, off + k * 4 + 3, none⟩ = some (.bool x.bad) := hcell 3 _ (by rw [hcs]; rfl)
      have HX := hid hx
      have HL' : Hid (0 < l.length) := by show 0 < l.length; omega
      clear hcell hcs hx
      rcases hb : x.bad with _ | _
      · rw [hb] at y3
        have HB := hid hb
        clear hb
        go_wp2_with fail
        go_round
        case rel => exact ⟨k + 1, by omega, by go_num, fun j x' hj hx' => by rcases Nat.lt_or_ge j k with h | h; exact HA.out j x' h hx'; obtain rfl : j = k := (by omega); rw [HX.out] at hx'; cases hx'; exact HB.out⟩
        case measure => simp [intOf]; omega
      · rw [hb] at y3
        have HB : Hid (Lib.validD s.data.toList = false) := HVV.out.symm.trans (all_not HX.out hb)
        clear hb
        go_wp2_with fail
        go_ret
        exact ⟨by rw [HB.out]; rfl, HK.out⟩
    · have hge : (l.length : Int) ≤ (k : Int) := by omega
      have HB : Hid (Lib.validD s.data.toList = true) := HVV.out.symm.trans (all_prefix HA.out (by omega))
      go_wp2_with fail
      go_ret
      exact ⟨by rw [HB.out]; rfl, HK.out⟩

set_option maxRecDepth 100000 in
theorem r1Count_any (s : ByteArray) (w : World) (hs : s.size ≤ 1000000) :
    Calls Tryz.prog 76 #[.string s] w fun e w' => e = .returned (.int .i64 (Lib.runeCount s)) ∧ Keeps [] w w' := by
  have HC : Hid ((pieces s.data.toList).length = Lib.runeCount s) := pieces_count s
  go_enter Tryz.func76, Tryz.ntmps76
  go_wp2_with fail
  refine (pieces_any s w hs).mono ?_
  rintro e w1 ⟨a, q, rfl, hf, hk⟩
  have HK := hid hk
  clear hk hf
  go_wp2_with fail
  go_ret
  exact ⟨by rw [← HC.out]; rfl, HK.out⟩

set_option maxRecDepth 100000 in
theorem ruCount_any (s : ByteArray) (w : World) (hs : s.size < 9223372036854775807) :
    Calls Tryz.prog 99 #[.string s] w fun e w' => e = .returned (.int .i64 (Lib.runeCount s)) ∧ Keeps [] w w' := by
  go_enter Tryz.func99, Tryz.ntmps99
  go_wp2_with fail
  refine (uCount_any s w hs).mono ?_
  rintro e w1 ⟨rfl, hk⟩
  have HK := hid hk
  clear hk
  go_wp2_with fail
  go_ret
  exact ⟨rfl, HK.out⟩

end Go.Proofs.YtbbdmmhpbeleoaaGreatDoor

/- quoted: a text between quotes. -/
namespace Go.Proofs.YtbbdmmhpbeleoaaGreatDoor
open Go Go.RowKit

theorem hexIdx (k : Nat) (hk : k < (⟨#[48, 49, 50, 51, 52, 53, 54, 55, 56, 57, 97, 98, 99, 100, 101, 102]⟩ : ByteArray).size) : ((⟨#[48, 49, 50, 51, 52, 53, 54, 55, 56, 57, 97, 98, 99, 100, 101, 102]⟩ : ByteArray)[k]'hk) = hexD k := by
  have h : ∀ k : Fin 16, (⟨#[48, 49, 50, 51, 52, 53, 54, 55, 56, 57, 97, 98, 99, 100, 101, 102]⟩ : ByteArray)[k.val] = hexD k.val := by decide
  exact h ⟨k, hk⟩
set_option maxRecDepth 100000 in
theorem and15 : ∀ x : Fin 160, bits .and .i32 ((x.val : Nat) : Int) 15 = ((x.val % 16 : Nat) : Int) := by decide
theorem byteCells_one' (c : UInt8) : Lib.byteCells [c] = [.int .u8 c.toNat] := rfl

end Go.Proofs.YtbbdmmhpbeleoaaGreatDoor

/- Show: a value as a text. -/
namespace Go.Proofs.YtbbdmmhpbeleoaaGreatDoor
open Go Go.RowKit

def showL (v : ValD) : List UInt8 :=
  if v.kind = 1 then Lib.itoa v.n else if v.kind = 2 then (if v.n = 1 then [116, 114, 117, 101] else [102, 97, 108, 115, 101]) else if v.kind = 3 then quoteL v.s.data.toList else if v.kind = 4 then 35 :: Lib.itoa v.n else [45]
theorem showL_int (n : Int) (s : ByteArray) : showL ⟨1, n, s⟩ = Lib.itoa n := by simp [showL]
theorem showL_bool (n : Int) (s : ByteArray) : showL ⟨2, n, s⟩ = Lib.formatBool (n == 1) := by
  rcases h : (n == 1) with _ | _
  · have h' : n ≠ 1 := by simpa using h
    simp [showL, h', Lib.formatBool]
    rfl
  · have h' : n = 1 := by simpa using h
    simp [showL, h', Lib.formatBool]
    rfl
theorem showL_text (n : Int) (s : ByteArray) : showL ⟨3, n, s⟩ = quoteL s.data.toList := by simp [showL]
theorem showL_bad (n : Int) (s : ByteArray) : showL ⟨4, n, s⟩ = 35 :: Lib.itoa n := by simp [showL]
def bytes (l : List UInt8) : ByteArray := ⟨l.toArray⟩


end Go.Proofs.YtbbdmmhpbeleoaaGreatDoor

/- A quoted text read again; shown values are unlike: plain. -/
namespace Go.Proofs.YtbbdmmhpbeleoaaGreatDoor
open Go

def hexV (b : UInt8) : Option Nat := if 48 ≤ b.toNat ∧ b.toNat ≤ 57 then some (b.toNat - 48) else if 97 ≤ b.toNat ∧ b.toNat ≤ 102 then some (b.toNat - 87) else none
/-- The rune behind a sign, and the bytes it takes; (0, 0): none. -/
def escL : List UInt8 → Nat × Nat
  | _ :: b :: t =>
    if b.toNat = 34 ∨ b.toNat = 92 then (b.toNat, 2) else if b.toNat = 117 then
      match t with
      | h1 :: h2 :: h3 :: h4 :: _ =>
        match hexV h1, hexV h2, hexV h3, hexV h4 with
        | some a, some b, some c, some d => if 55296 ≤ ((a * 16 + b) * 16 + c) * 16 + d ∧ ((a * 16 + b) * 16 + c) * 16 + d ≤ 57343 then (0, 0) else (((a * 16 + b) * 16 + c) * 16 + d, 6)
        | _, _, _, _ => (0, 0)
      | _ => (0, 0)
    else (0, 0)
  | _ => (0, 0)
/-- What stands between the first quote and the next, and the bytes so far. -/
def unqGo : Nat → List UInt8 → List UInt8 → Nat → Option (List UInt8 × Nat)
  | 0, _, _, _ => none
  | f + 1, l, acc, p =>
    if l = [] then none else if (Lib.decodeL l).1 = 34 then some (acc, p + 1)
    else if (Lib.decodeL l).1 = 92 then (if (escL l).2 = 0 then none else unqGo f (l.drop (escL l).2) (acc ++ Lib.encodeRune ((escL l).1 : Int)) (p + (escL l).2))
    else if ((Lib.decodeL l).1 = 65533 ∧ (Lib.decodeL l).2 = 1) ∨ ctlR (Lib.decodeL l).1 = true then none
    else unqGo f (l.drop (Lib.decodeL l).2) (acc ++ Lib.encodeRune ((Lib.decodeL l).1 : Int)) (p + (Lib.decodeL l).2)
def unqL (l : List UInt8) : Option (List UInt8 × Nat) :=
  match l with
  | [] => none
  | b :: t => if b.toNat = 34 then unqGo (t.length + 1) t [] 1 else none

theorem unqGo_succ (f : Nat) (l acc : List UInt8) (p : Nat) : unqGo (f + 1) l acc p =
    if l = [] then none else if (Lib.decodeL l).1 = 34 then some (acc, p + 1)
    else if (Lib.decodeL l).1 = 92 then (if (escL l).2 = 0 then none else unqGo f (l.drop (escL l).2) (acc ++ Lib.encodeRune ((escL l).1 : Int)) (p + (escL l).2))
    else if ((Lib.decodeL l).1 = 65533 ∧ (Lib.decodeL l).2 = 1) ∨ ctlR (Lib.decodeL l).1 = true then none
    else unqGo f (l.drop (Lib.decodeL l).2) (acc ++ Lib.encodeRune ((Lib.decodeL l).1 : Int)) (p + (Lib.decodeL l).2) := rfl
theorem decode_byte (b : UInt8) (t : List UInt8) (h : b.toNat < 128) : Lib.decodeL (b :: t) = (b.toNat, 1) := by
  rw [Lib.decodeL_N]
  simp only [List.getD_cons_zero]
  rw [Lib.decodeN_ascii _ _ _ _ _ h]
theorem hexV_fin : ∀ n : Fin 16, hexV (hexD n.val) = some n.val := by decide +kernel
theorem hexV_hexD (n : Nat) (h : n < 16) : hexV (hexD n) = some n := hexV_fin ⟨n, h⟩
theorem enc_one (r : Nat) (h : r < 128) : Lib.encodeRune (r : Int) = [UInt8.ofNat r] := enc1 r h

theorem enc_len (r : Int) : (Lib.encodeRune r).length = (Lib.encodeRuneZ r).length := by simp [Lib.encodeRune]

theorem unq_rune (f : Nat) (r : Nat) (hv : r < 55296 ∨ (57344 ≤ r ∧ r ≤ 1114111)) (t acc : List UInt8) (p : Nat) :
    unqGo (f + 1) (quoteR r ++ t) acc p = unqGo f t (acc ++ Lib.encodeRune (r : Int)) (p + (quoteR r).length) := by
  by_cases hs : r = 34 ∨ r = 92
  · rw [quoteR_sign hs, enc_one r (by omega)]
    have hb : (UInt8.ofNat r).toNat = r := ofNat_toNat r (by omega)
    have hd : Lib.decodeL (92 :: UInt8.ofNat r :: t) = (92, 1) := decode_byte 92 _ (by decide)
    have he : escL (92 :: UInt8.ofNat r :: t) = (r, 2) := by
      show (if (UInt8.ofNat r).toNat = 34 ∨ (UInt8.ofNat r).toNat = 92 then ((UInt8.ofNat r).toNat, 2) else _) = _
      rw [hb, if_pos hs]
    show unqGo (f + 1) (92 :: UInt8.ofNat r :: t) acc p = _
    rw [unqGo_succ]
    rw [if_neg (by simp), hd, if_neg (by simp), if_pos rfl, he, if_neg (by simp)]
    simp only [enc_one r (by omega : r < 128)]
    rfl
  · by_cases hc : ctlR r = true
    · have hr : r < 256 := by simp [ctlR] at hc; omega
      rw [quoteR_ctl hc]
      have hd : Lib.decodeL (92 :: 117 :: 48 :: 48 :: hexD (r / 16) :: hexD (r % 16) :: t) = (92, 1) := decode_byte 92 _ (by decide)
      have he : escL (92 :: 117 :: 48 :: 48 :: hexD (r / 16) :: hexD (r % 16) :: t) = (r, 6) := by
        have e0 : hexV 48 = some 0 := by decide
        show (if (117 : UInt8).toNat = 34 ∨ (117 : UInt8).toNat = 92 then ((117 : UInt8).toNat, 2) else if (117 : UInt8).toNat = 117 then (match hexV 48, hexV 48, hexV (hexD (r / 16)), hexV (hexD (r % 16)) with
          | some a, some b, some c, some d => if 55296 ≤ ((a * 16 + b) * 16 + c) * 16 + d ∧ ((a * 16 + b) * 16 + c) * 16 + d ≤ 57343 then (0, 0) else (((a * 16 + b) * 16 + c) * 16 + d, 6)
          | _, _, _, _ => (0, 0)) else (0, 0)) = _
        rw [if_neg (by decide), if_pos (by decide)]
        simp only [e0, hexV_hexD (r / 16) (by omega), hexV_hexD (r % 16) (by omega)]
        rw [if_neg (by omega)]
        exact Prod.ext (by show ((0 * 16 + 0) * 16 + r / 16) * 16 + r % 16 = r; omega) rfl
      show unqGo (f + 1) (92 :: 117 :: 48 :: 48 :: hexD (r / 16) :: hexD (r % 16) :: t) acc p = _
      rw [unqGo_succ]
      rw [if_neg (by simp), hd, if_neg (by simp), if_pos rfl, he, if_neg (by simp)]
      rfl
    · have hc' : ctlR r = false := by simpa using hc
      rw [quoteR_any hs hc']
      have hd := decode_encode r hv t
      have hne : Lib.encodeRune (r : Int) ++ t ≠ [] := by
        intro h
        have h1 := Lib.encodeRuneZ_length (r : Int)
        have h2 : (Lib.encodeRune (r : Int)).length = 0 := by rw [(List.append_eq_nil_iff.1 h).1]; rfl
        rw [enc_len] at h2
        omega
      have h3 : ¬ (r = 65533 ∧ (Lib.encodeRune (r : Int)).length = 1) := by
        rintro ⟨rfl, h⟩
        rw [enc3 65533 (by omega)] at h
        simp at h
      show unqGo (f + 1) (Lib.encodeRune (r : Int) ++ t) acc p = _
      rw [unqGo_succ]
      rw [if_neg hne, hd]
      rw [if_neg (by show ¬ r = 34; omega), if_neg (by show ¬ r = 92; omega), if_neg (fun h => h.elim h3 hc)]
      show unqGo f ((Lib.encodeRune (r : Int) ++ t).drop (Lib.encodeRune (r : Int)).length) _ _ = _
      rw [List.drop_left']
      rfl

/-- A text that may be, quoted, is read again. -/
theorem unq_quoteGo : ∀ (f g : Nat) (l t acc : List UInt8) (p : Nat), l.length ≤ f → l.length < g → Lib.validD l = true →
    unqGo g (quoteGo f l ++ 34 :: t) acc p = some (acc ++ l, p + (quoteGo f l).length + 1)
  | f, 0, l, t, acc, p, _, hg, _ => by omega
  | 0, g + 1, l, t, acc, p, hf, _, _ => by
    obtain rfl : l = [] := List.eq_nil_of_length_eq_zero (by omega)
    have hd : Lib.decodeL (34 :: t) = (34, 1) := decode_byte 34 _ (by decide)
    show unqGo (g + 1) (34 :: t) acc p = _
    rw [unqGo_succ]
    rw [if_neg (by simp), hd, if_pos rfl]
    simp [quoteGo]
  | f + 1, g + 1, l, t, acc, p, hf, hg, hv => by
    by_cases hne : l = []
    · subst hne
      have hd : Lib.decodeL (34 :: t) = (34, 1) := decode_byte 34 _ (by decide)
      rw [quoteGo_nil]
      show unqGo (g + 1) (34 :: t) acc p = _
      rw [unqGo_succ]
      rw [if_neg (by simp), hd, if_pos rfl]
      simp
    · have hw := Lib.decodeL_width l
      have hl : 0 < l.length := List.length_pos_iff.2 hne
      rw [Lib.validD_step l hne] at hv
      have hb : ¬ ((Lib.decodeL l).1 = 65533 ∧ (Lib.decodeL l).2 = 1) := by
        intro h; rw [if_pos h] at hv; cases hv
      rw [if_neg hb] at hv
      have henc := Lib.encode_decode l hne hb
      have hq : quoteGo (f + 1) l = quoteR (Lib.decodeL l).1 ++ quoteGo f (l.drop (Lib.decodeL l).2) := by rw [quoteGo, if_neg hne]
      rw [hq, List.append_assoc, unq_rune g _ (decodeL_valid l), unq_quoteGo f g (l.drop (Lib.decodeL l).2) t _ _ (by rw [List.length_drop]; omega) (by rw [List.length_drop]; omega) hv, henc]
      congr 1
      refine Prod.ext ?_ ?_
      · show acc ++ l.take _ ++ l.drop _ = acc ++ l
        rw [List.append_assoc, List.take_append_drop]
      · show p + (quoteR _).length + (quoteGo f _).length + 1 = p + (quoteR _ ++ quoteGo f _).length + 1
        rw [List.length_append]; omega
theorem unq_len (f : Nat) : ∀ (l : List UInt8), l.length ≤ f → Lib.validD l = true → l.length ≤ (quoteGo f l).length := by
  induction f with
  | zero => intro l h _; omega
  | succ f ih =>
    intro l h hv
    unfold quoteGo
    by_cases hne : l = []
    · simp [hne]
    · have hw := Lib.decodeL_width l
      have hl : 0 < l.length := List.length_pos_iff.2 hne
      rw [Lib.validD_step l hne] at hv
      have hb : ¬ ((Lib.decodeL l).1 = 65533 ∧ (Lib.decodeL l).2 = 1) := by
        intro h; rw [if_pos h] at hv; cases hv
      rw [if_neg hb] at hv
      have henc := congrArg List.length (Lib.encode_decode l hne hb)
      have hle := Lib.decodeL_le l hne
      rw [List.length_take, Nat.min_eq_left hle] at henc
      have h4 := Lib.encodeRuneZ_length ((Lib.decodeL l).1 : Int)
      rw [← enc_len] at h4
      have hq : (Lib.decodeL l).2 ≤ (quoteR (Lib.decodeL l).1).length := by
        unfold quoteR
        repeat' split
        · simp; omega
        · simp; omega
        · omega
      rw [if_neg hne, List.length_append]
      have h1 := ih (l.drop (Lib.decodeL l).2) (by rw [List.length_drop]; omega) hv
      rw [List.length_drop] at h1
      omega
theorem unq_quote (l t : List UInt8) (hv : Lib.validD l = true) : unqL (quoteL l ++ t) = some (l, (quoteL l).length) := by
  have hl := unq_len l.length l (Nat.le_refl _) hv
  have e : quoteL l ++ t = 34 :: (quoteGo l.length l ++ 34 :: t) := by simp [quoteL]
  rw [e]
  show (if (34 : UInt8).toNat = 34 then unqGo ((quoteGo l.length l ++ 34 :: t).length + 1) (quoteGo l.length l ++ 34 :: t) [] 1 else none) = _
  rw [if_pos (by decide), unq_quoteGo l.length _ l t [] 1 (Nat.le_refl _) (by simp; omega) hv]
  simp [quoteL]
  omega
theorem quoteL_inj {l m : List UInt8} (hl : Lib.validD l = true) (hm : Lib.validD m = true) (h : quoteL l = quoteL m) : l = m := by
  have h1 := unq_quote l [] hl
  have h2 := unq_quote m [] hm
  rw [h, h2] at h1
  exact ((Prod.mk.inj (Option.some.inj h1)).1).symm

/-- What digits say. -/
def numOf (l : List UInt8) : Nat := l.foldl (fun a b => a * 10 + (b.toNat - 48)) 0
theorem numOf_snoc (l : List UInt8) (b : UInt8) : numOf (l ++ [b]) = numOf l * 10 + (b.toNat - 48) := by simp [numOf]
theorem numOf_digits (u : Nat) : numOf (Lib.decDigits u) = u := by
  induction u using Nat.strongRecOn with
  | _ u ih =>
    rw [Lib.decDigits]
    by_cases h : u < 10
    · rw [dif_pos h]
      show 0 * 10 + ((UInt8.ofNat (48 + u)).toNat - 48) = u
      rw [ofNat_toNat _ (by omega)]
      omega
    · rw [dif_neg h, numOf_snoc, ih (u / 10) (by omega), ofNat_toNat _ (by omega)]
      omega
theorem digits_inj {u v : Nat} (h : Lib.decDigits u = Lib.decDigits v) : u = v := by rw [← numOf_digits u, h, numOf_digits]
theorem digits_first {u : Nat} {b : UInt8} {t : List UInt8} (h : Lib.decDigits u = b :: t) : 48 ≤ b.toNat ∧ b.toNat ≤ 57 := digits_bd u b (by rw [h]; simp)
theorem itoa_inj {n m : Int} (h : Lib.itoa n = Lib.itoa m) : n = m := by
  unfold Lib.itoa at h
  split at h <;> split at h
  · have := digits_inj (List.cons.inj h).2; omega
  · have := digits_first h.symm; simp at this
  · have := digits_first h; simp at this
  · have := digits_inj h; omega
theorem itoa_line {n : Int} : Lib.itoa n ≠ [45] := by
  unfold Lib.itoa
  split
  · intro h; exact digits_ne _ (List.cons.inj h).2
  · intro h; have := digits_first h; simp at this
theorem itoa_first {n : Int} {b : UInt8} {t : List UInt8} (h : Lib.itoa n = b :: t) : 45 ≤ b.toNat ∧ b.toNat ≤ 57 := itoa_bd n b (by rw [h]; simp)

theorem checkD_cases {v : ValD} (h : checkD v = true) : (v.kind = 0 ∧ v.n = 0 ∧ v.s = ⟨#[]⟩) ∨ (v.kind = 1 ∧ v.s = ⟨#[]⟩) ∨ (v.kind = 2 ∧ (v.n = 0 ∨ v.n = 1) ∧ v.s = ⟨#[]⟩) ∨ (v.kind = 3 ∧ v.n = 0 ∧ Lib.validD v.s.data.toList = true) ∨ (v.kind = 4 ∧ v.s = ⟨#[]⟩) := by
  have he : emptyB v.s = true → v.s = ⟨#[]⟩ := fun h => by
    have h1 := emptyB_data h
    obtain ⟨k, n, ⟨⟨s⟩⟩⟩ := v
    simp at h1 ⊢
    exact h1
  unfold checkD at h
  repeat' split at h
  · simp at h; exact .inl ⟨by assumption, h.1, he h.2⟩
  · exact .inr (.inl ⟨by assumption, he h⟩)
  · simp at h; exact .inr (.inr (.inl ⟨by assumption, h.1, he h.2⟩))
  · simp [textOk] at h; exact .inr (.inr (.inr (.inl ⟨by assumption, h.1, h.2.2.1⟩)))
  · simp at h; exact .inr (.inr (.inr (.inr ⟨by assumption, he h.2⟩)))
  · cases h
theorem showL_of (v : ValD) : showL v = if v.kind = 1 then Lib.itoa v.n else if v.kind = 2 then (if v.n = 1 then [116, 114, 117, 101] else [102, 97, 108, 115, 101]) else if v.kind = 3 then quoteL v.s.data.toList else if v.kind = 4 then 35 :: Lib.itoa v.n else [45] := rfl
/-- Which kind a shown text is. -/
def tagL (l : List UInt8) : Int :=
  if l = [45] then 0 else match l with
    | b :: _ => if b.toNat = 34 then 3 else if b.toNat = 35 then 4 else if b.toNat = 116 ∨ b.toNat = 102 then 2 else 1
    | [] => 1
theorem tag_show {v : ValD} (hv : checkD v = true) : tagL (showL v) = v.kind := by
  obtain ⟨k, n, s⟩ := v
  have A := checkD_cases hv
  dsimp only at A
  rcases A with ⟨rfl, rfl, rfl⟩ | ⟨rfl, rfl⟩ | ⟨rfl, a1, rfl⟩ | ⟨rfl, rfl, a1⟩ | ⟨rfl, rfl⟩
  · rfl
  · rw [showL_int]
    unfold tagL
    rw [if_neg itoa_line]
    rcases h : Lib.itoa n with _ | ⟨b, t⟩
    · rfl
    · have := itoa_first h
      show (if _ then _ else _) = _
      rw [if_neg (by omega), if_neg (by omega), if_neg (by omega)]
  · rcases a1 with rfl | rfl <;> rfl
  · rw [showL_text]
    unfold tagL
    rw [if_neg (by simp [quoteL])]
    rfl
  · rw [showL_bad]
    unfold tagL
    rw [if_neg (by simp)]
    rfl
theorem showL_inj {v u : ValD} (hv : checkD v = true) (hu : checkD u = true) (h : showL v = showL u) : v = u := by
  have hk : v.kind = u.kind := by rw [← tag_show hv, h, tag_show hu]
  obtain ⟨k, n, s⟩ := v
  obtain ⟨k', n', s'⟩ := u
  have A := checkD_cases hv
  have B := checkD_cases hu
  dsimp only at A B hk
  subst hk
  rcases A with ⟨rfl, rfl, rfl⟩ | ⟨rfl, rfl⟩ | ⟨rfl, a1, rfl⟩ | ⟨rfl, rfl, a1⟩ | ⟨rfl, rfl⟩
  · rcases B with ⟨_, rfl, rfl⟩ | ⟨h, _⟩ | ⟨h, _⟩ | ⟨h, _⟩ | ⟨h, _⟩ <;> first | rfl | (exact absurd h (by decide))
  · rcases B with ⟨h', _⟩ | ⟨_, rfl⟩ | ⟨h', _⟩ | ⟨h', _⟩ | ⟨h', _⟩ <;> first | (exact absurd h' (by decide)) | skip
    rw [showL_int, showL_int] at h
    rw [itoa_inj h]
  · rcases B with ⟨h', _⟩ | ⟨h', _⟩ | ⟨_, b1, rfl⟩ | ⟨h', _⟩ | ⟨h', _⟩ <;> first | (exact absurd h' (by decide)) | skip
    rcases a1 with rfl | rfl <;> rcases b1 with rfl | rfl <;> first | rfl | (exact absurd h (by decide))
  · rcases B with ⟨h', _⟩ | ⟨h', _⟩ | ⟨h', _⟩ | ⟨_, rfl, b1⟩ | ⟨h', _⟩ <;> first | (exact absurd h' (by decide)) | skip
    rw [showL_text, showL_text] at h
    have := quoteL_inj a1 b1 h
    have e : s = s' := by
      obtain ⟨⟨l⟩⟩ := s
      obtain ⟨⟨m⟩⟩ := s'
      simp at this
      rw [this]
    rw [e]
  · rcases B with ⟨h', _⟩ | ⟨h', _⟩ | ⟨h', _⟩ | ⟨h', _⟩ | ⟨_, rfl⟩ <;> first | (exact absurd h' (by decide)) | skip
    rw [showL_bad, showL_bad] at h
    rw [itoa_inj (List.cons.inj h).2]

end Go.Proofs.YtbbdmmhpbeleoaaGreatDoor

/- The document's bytes of a rune. -/
namespace Go.Proofs.YtbbdmmhpbeleoaaGreatDoor
open Go Go.RowKit

def byL (r : Nat) : List UInt8 :=
  if r < 128 then [UInt8.ofNat r] else if r < 2048 then [UInt8.ofNat (192 + r / 64), UInt8.ofNat (128 + r % 64)]
  else if r < 65536 then [UInt8.ofNat (224 + r / 4096), UInt8.ofNat (128 + r / 64 % 64), UInt8.ofNat (128 + r % 64)]
  else [UInt8.ofNat (240 + r / 262144), UInt8.ofNat (128 + r / 4096 % 64), UInt8.ofNat (128 + r / 64 % 64), UInt8.ofNat (128 + r % 64)]

theorem conv_cells (w : World) (n : Nat) (xs : List UInt8) (hn : xs.length = n) (hp : 0 < n) (hm : n ≤ 1000) (cs : Array Value) (hcs : cs = (u8s xs).toArray) :
    (convert 28 9 (.slice (some ⟨w.heap.size, 0, none⟩) n n)).run Tryz.prog (w.alloc (.cells cs 5)) = .ok (.string (str xs)) (w.alloc (.cells cs 5)) := by
  subst hn hcs
  refine run_convert_str _ 28 9 5 _ xs Tryz.underlying28 Tryz.underlying5 Tryz.underlying9 ⟨by simp, .inr ⟨hp, _, _, _, rfl, Nat.le_refl _, le_maxLen (by omega), by simp, fun j u hu => ?_⟩⟩
  rw [cell_of_row _ _ _ _ _ _ (heap_alloc_new w _)]
  simpa using hu

set_option maxRecDepth 100000 in
set_option maxHeartbeats 800000 in
theorem r1Bytes_any (r : Nat) (hr : r < 2097152) (w : World) : Calls Tryz.prog 108 #[.int .i32 r] w fun e w' => e = .returned (.string (str (byL r))) ∧ Keeps [] w w' := by
  have r0 : (0 : Int) ≤ (r : Int) := Int.natCast_nonneg _
  by_cases h1 : r < 128
  · have h1' : (r : Int) < 128 := by omega
    have HE : Hid (byL r = [UInt8.ofNat (r)]) := (by unfold byL; rw [if_pos h1] : byL r = [UInt8.ofNat (r)])
    have cv := conv_cells w 1 [UInt8.ofNat (r)] rfl (by decide) (by decide) #[.int .u8 ((r : Int))] (by simp [u8s]; omega)
    obtain ⟨xs, hxs⟩ : ∃ xs, [UInt8.ofNat (r)] = xs := ⟨_, rfl⟩
    rw [hxs] at cv HE
    clear hxs h1
    clear hr
    go_enter Tryz.func108, Tryz.ntmps108
    go_wp2_with fail
    go_ret
    rw [HE.out]
    exact ⟨rfl, by exact Keeps.K⟩
  by_cases h2 : r < 2048
  · have h2' : (r : Int) < 2048 := by omega
    have g0 : (128 : Int) ≤ (r : Int) := by omega
    have e0 : ((r : Int) < 128) = False := by simp; omega
    have HE : Hid (byL r = [UInt8.ofNat (192 + r / 64), UInt8.ofNat (128 + r % 64)]) := (by unfold byL; rw [if_neg h1]; rw [if_pos h2] : byL r = [UInt8.ofNat (192 + r / 64), UInt8.ofNat (128 + r % 64)])
    have cv := conv_cells w 2 [UInt8.ofNat (192 + r / 64), UInt8.ofNat (128 + r % 64)] rfl (by decide) (by decide) #[.int .u8 (192 + (r : Int) / 64), .int .u8 (128 + (r : Int) % 64)] (by simp [u8s]; omega)
    obtain ⟨xs, hxs⟩ : ∃ xs, [UInt8.ofNat (192 + r / 64), UInt8.ofNat (128 + r % 64)] = xs := ⟨_, rfl⟩
    rw [hxs] at cv HE
    clear hxs h1 h2
    clear hr
    go_enter Tryz.func108, Tryz.ntmps108
    go_wp2_with fail
    go_ret
    rw [HE.out]
    exact ⟨rfl, by exact Keeps.K⟩
  by_cases h3 : r < 65536
  · have h3' : (r : Int) < 65536 := by omega
    have g0 : (128 : Int) ≤ (r : Int) := by omega
    have e0 : ((r : Int) < 128) = False := by simp; omega
    have g1 : (2048 : Int) ≤ (r : Int) := by omega
    have e1 : ((r : Int) < 2048) = False := by simp; omega
    have HE : Hid (byL r = [UInt8.ofNat (224 + r / 4096), UInt8.ofNat (128 + r / 64 % 64), UInt8.ofNat (128 + r % 64)]) := (by unfold byL; rw [if_neg h1]; rw [if_neg h2]; rw [if_pos h3] : byL r = [UInt8.ofNat (224 + r / 4096), UInt8.ofNat (128 + r / 64 % 64), UInt8.ofNat (128 + r % 64)])
    have cv := conv_cells w 3 [UInt8.ofNat (224 + r / 4096), UInt8.ofNat (128 + r / 64 % 64), UInt8.ofNat (128 + r % 64)] rfl (by decide) (by decide) #[.int .u8 (224 + (r : Int) / 4096), .int .u8 (128 + (r : Int) / 64 % 64), .int .u8 (128 + (r : Int) % 64)] (by simp [u8s]; omega)
    obtain ⟨xs, hxs⟩ : ∃ xs, [UInt8.ofNat (224 + r / 4096), UInt8.ofNat (128 + r / 64 % 64), UInt8.ofNat (128 + r % 64)] = xs := ⟨_, rfl⟩
    rw [hxs] at cv HE
    clear hxs h1 h2 h3
    clear hr
    go_enter Tryz.func108, Tryz.ntmps108
    go_wp2_with fail
    go_ret
    rw [HE.out]
    exact ⟨rfl, by exact Keeps.K⟩
  have g0 : (128 : Int) ≤ (r : Int) := by omega
  have e0 : ((r : Int) < 128) = False := by simp; omega
  have g1 : (2048 : Int) ≤ (r : Int) := by omega
  have e1 : ((r : Int) < 2048) = False := by simp; omega
  have g2 : (65536 : Int) ≤ (r : Int) := by omega
  have e2 : ((r : Int) < 65536) = False := by simp; omega
  have HE : Hid (byL r = [UInt8.ofNat (240 + r / 262144), UInt8.ofNat (128 + r / 4096 % 64), UInt8.ofNat (128 + r / 64 % 64), UInt8.ofNat (128 + r % 64)]) := (by unfold byL; rw [if_neg h1]; rw [if_neg h2]; rw [if_neg h3] : byL r = [UInt8.ofNat (240 + r / 262144), UInt8.ofNat (128 + r / 4096 % 64), UInt8.ofNat (128 + r / 64 % 64), UInt8.ofNat (128 + r % 64)])
  have cv := conv_cells w 4 [UInt8.ofNat (240 + r / 262144), UInt8.ofNat (128 + r / 4096 % 64), UInt8.ofNat (128 + r / 64 % 64), UInt8.ofNat (128 + r % 64)] rfl (by decide) (by decide) #[.int .u8 (240 + (r : Int) / 262144), .int .u8 (128 + (r : Int) / 4096 % 64), .int .u8 (128 + (r : Int) / 64 % 64), .int .u8 (128 + (r : Int) % 64)] (by simp [u8s]; omega)
  obtain ⟨xs, hxs⟩ : ∃ xs, [UInt8.ofNat (240 + r / 262144), UInt8.ofNat (128 + r / 4096 % 64), UInt8.ofNat (128 + r / 64 % 64), UInt8.ofNat (128 + r % 64)] = xs := ⟨_, rfl⟩
  rw [hxs] at cv HE
  clear hxs h1 h2 h3
  have hrI : (r : Int) < 2097152 := by omega
  clear hr
  go_enter Tryz.func108, Tryz.ntmps108
  go_wp2_with fail
  go_ret
  rw [HE.out]
  exact ⟨rfl, by exact Keeps.K⟩

theorem byL_enc {r : Nat} (h : r < 55296 ∨ (57344 ≤ r ∧ r ≤ 1114111)) : byL r = Lib.encodeRune (r : Int) := by
  unfold byL
  repeat' split
  · rw [enc1 r (by omega)]
  · rw [enc2 r (by omega) (by omega)]
  · rw [enc3 r (by omega)]
  · rw [enc4 r (by omega) (by omega)]

end Go.Proofs.YtbbdmmhpbeleoaaGreatDoor

/- The document's text in its signs: Quote. -/
namespace Go.Proofs.YtbbdmmhpbeleoaaGreatDoor
open Go Go.RowKit

theorem hex16_fin : ∀ d : Fin 16, (⟨#[48, 49, 50, 51, 52, 53, 54, 55, 56, 57, 97, 98, 99, 100, 101, 102]⟩ : ByteArray).extract d.val (d.val + 1) = str [hexD d.val] := by decide +kernel
theorem hex_slice (d : Nat) (h : d < 16) : (⟨#[48, 49, 50, 51, 52, 53, 54, 55, 56, 57, 97, 98, 99, 100, 101, 102]⟩ : ByteArray).extract d (d + 1) = str [hexD d] := hex16_fin ⟨d, h⟩
theorem extract_str (s : ByteArray) (p n : Nat) : s.extract p (p + n) = str ((s.data.toList.drop p).take n) := by
  refine ByteArray.ext ?_
  rw [ByteArray.data_extract]
  apply Array.toList_inj.1
  simp [str, Array.toList_extract, List.take_drop]

/-- Pieces of a text that may be: k of them written, up to place p. -/
def QP (l : List UInt8) (k p : Nat) (acc : List UInt8) : Prop := QAt l acc p ∧ Lib.validD (l.drop p) = true ∧ PcsAt l ((pieces l).take k) p
theorem QP.zero {l : List UInt8} (h : Lib.validD l = true) : QP l 0 0 [34] := ⟨QAt.zero l, by simpa using h, by simpa using PcsAt.zero l⟩
theorem QP.next {l acc : List UInt8} {k p : Nat} (h : QP l k p acc) (hk : k < (pieces l).length) :
    ∃ x, (pieces l)[k]? = some x ∧ x.at_ = p ∧ p < l.length ∧ (x.r < 55296 ∨ (57344 ≤ x.r ∧ x.r ≤ 1114111)) ∧ (l.drop p).take x.n = Lib.encodeRune (x.r : Int) ∧ p + x.n ≤ l.length ∧ QP l (k + 1) (p + x.n) (acc ++ quoteR x.r) := by
  obtain ⟨hq, hv, hp⟩ := h
  have hlen : ((pieces l).take k).length = k := by rw [List.length_take]; omega
  have hlt : p < l.length := by
    rcases Nat.lt_or_ge p l.length with h | h
    · exact h
    · have := (hp.end_ (by omega)).1
      rw [← this, hlen] at hk
      omega
  have hne : l.drop p ≠ [] := by simp; omega
  have hs := pcs_step (p := p) hne
  rw [List.length_drop] at hs
  have hx : (pieces l)[k]? = some ⟨p, (Lib.decodeL (l.drop p)).2, (Lib.decodeL (l.drop p)).1, badL (l.drop p)⟩ := by
    have h3 := hp.2.2
    rw [hs] at h3
    rw [h3, List.getElem?_append_right (by rw [hlen]; exact Nat.le_refl _), hlen]
    simp
  have hb : ¬ ((Lib.decodeL (l.drop p)).1 = 65533 ∧ (Lib.decodeL (l.drop p)).2 = 1) := by
    intro h; rw [Lib.validD_step _ hne, if_pos h] at hv; cases hv
  have hv2 := hv
  rw [Lib.validD_step _ hne, if_neg hb, List.drop_drop] at hv2
  have hle := Lib.decodeL_le (l.drop p) hne
  rw [List.length_drop] at hle
  have hn := hp.next hlt
  have ht : (pieces l).take (k + 1) = (pieces l).take k ++ [⟨p, (Lib.decodeL (l.drop p)).2, (Lib.decodeL (l.drop p)).1, badL (l.drop p)⟩] := by
    rw [List.take_add_one, hx]; rfl
  refine ⟨_, hx, rfl, hlt, decodeL_valid _, (Lib.encode_decode _ hne hb).symm, by show p + (Lib.decodeL (l.drop p)).2 ≤ _; omega, hq.next hlt, hv2, ?_⟩
  rw [ht]; exact hn
theorem QP.end_ {l acc : List UInt8} {k p : Nat} (h : QP l k p acc) (hk : ¬ k < (pieces l).length) : quoteL l = acc ++ [34] := by
  refine h.1.end_ fun hlt => ?_
  have hp := h.2.2
  rw [List.take_of_length_le (by omega)] at hp
  have hne : l.drop p ≠ [] := by simp; omega
  have hs := pcs_step (p := p) hne
  rw [List.length_drop] at hs
  have h3 := congrArg List.length hp.2.2
  rw [hs, List.length_append, List.length_cons] at h3
  omega

end Go.Proofs.YtbbdmmhpbeleoaaGreatDoor
