/- Joined of CoreB, Blks, CoreF, CoreN, CoreO, Strs. -/
import Derived.Test.YtgjiahilbmeaeaaGreatDoorQ02
import Derived.Test.YtgjiahilbmeaeaaGreatDoorQ00
set_option maxRecDepth 100000
set_option maxHeartbeats 3200000
set_option linter.unusedSimpArgs false
set_option linter.unusedVariables false
/- How entries, messages, a core lie in memory; the smallest methods. -/
namespace Go.Proofs.YtgjiahilbmeaeaaGreatDoor
open Go Go.RowKit
def entV (e : Ent) (v : Value) : Value := .agg #[.int .i64 e.term, .bool e.cmd, v]
def entL : Lay Ent where
 size := 3
 pos := by decide
 at_ w P cs e := ∃ v, cs = [.int .i64 e.term, .bool e.cmd, v] ∧ BytesAt w P v e.data
 len := fun ⟨v, e, _⟩ => by rw [e]; rfl
 one := fun ⟨v, e, h⟩ u hu => by
  rw [e] at hu
  obtain ⟨a, c, rfl⟩ := h.form
  simp at hu
  rcases hu with rfl | rfl | rfl <;> rfl
 keep := fun ⟨v, e, h⟩ k hP => ⟨v, e, h.keep k hP⟩
 mono := fun ⟨v, e, h⟩ hP => ⟨v, e, h.mono hP⟩
def msgV (m : MsgD) (ev dv : Value) : Value := .agg #[.int .i64 m.kind, .int .i64 m.frm, .int .i64 m.«to», .int .i64 m.term, .int .i64 m.a, .int .i64 m.b, .int .i64 m.c, .bool m.ok, ev, dv]
def msgL : Lay MsgD where
 size := 10
 pos := by decide
 at_ w P cs m := ∃ ev dv, cs = [.int .i64 m.kind, .int .i64 m.frm, .int .i64 m.«to», .int .i64 m.term, .int .i64 m.a, .int .i64 m.b, .int .i64 m.c, .bool m.ok, ev, dv] ∧ ListAt entL w P ev m.entries ∧ BytesAt w P dv m.data
 len := fun ⟨ev, dv, e, _⟩ => by rw [e]; rfl
 one := fun ⟨ev, dv, e, h1, h2⟩ u hu => by
  rw [e] at hu
  obtain ⟨a, c, rfl⟩ := h1.form
  obtain ⟨a2, c2, rfl⟩ := h2.form
  simp at hu
  rcases hu with rfl | rfl | rfl | rfl | rfl | rfl | rfl | rfl | rfl | rfl <;> rfl
 keep := fun ⟨ev, dv, e, h1, h2⟩ k hP => ⟨ev, dv, e, h1.keep k hP, h2.keep k hP⟩
 mono := fun ⟨ev, dv, e, h1, h2⟩ hP => ⟨ev, dv, e, h1.mono hP, h2.mono hP⟩
theorem Tryz.infoEnt : (Tryz.prog.info? 179).map (fun i => (i.zero, i.size, i.bytes)) = some (some (.agg #[.int .i64 0, .bool false, .slice none 0 0]), 3, 40) := by kernel_rfl
def bools (l : List Bool) : List Value := l.map Value.bool
def ints (l : List Int) : List Value := l.map (Value.int .i64)
def tailCells (c : CoreD) : List Value := bools c.votes ++ (ints c.next ++ (ints c.matc ++ [.bool c.hard, .int .i64 c.frm, .bool c.tsnap]))
def coreCells (c : CoreD) (lv sv : Value) : List Value :=
 .int .i64 c.conf.nodes :: .int .i64 c.conf.clients :: .int .i64 c.conf.heart :: .int .i64 c.conf.lo :: .int .i64 c.conf.range :: .int .i64 c.conf.sessions :: .int .i64 c.conf.snap :: .int .i64 c.conf.room :: .int .i64 c.conf.retry ::
 .int .i64 c.id :: .int .i64 c.term :: .int .i64 c.vote :: .int .i64 c.role :: .int .i64 c.leader :: .int .i64 c.commit :: .int .i64 c.base :: .int .i64 c.baseTerm :: lv :: sv :: .int .i64 c.draw :: .int .i64 c.patience :: tailCells c
def CoreBlk (w : World) (n : Nat) (c : CoreD) (lv sv : Value) : Prop := w.heap[n]? = some (.cells (coreCells c lv sv).toArray 141 (0, 0))
theorem CoreBlk.cell {w : World} {n : Nat} {c : CoreD} {lv sv : Value} (h : CoreBlk w n c lv sv) (i : Nat) : w.cell? ⟨n, i, none⟩ = (coreCells c lv sv)[i]? := by
 rw [cell_of_block h i]; simp
theorem CoreBlk.free {w : World} {n : Nat} {c : CoreD} {lv sv : Value} (h : CoreBlk w n c lv sv) (i : Nat) : w.frozen? ⟨n, i, none⟩ = false := frozen_of_row w n i _ _ h
theorem CoreBlk.lt {w : World} {n : Nat} {c : CoreD} {lv sv : Value} (h : CoreBlk w n c lv sv) : n < w.heap.size := (Array.getElem?_eq_some_iff.1 h).1
theorem CoreBlk.keep {w w' : World} {n : Nat} {c : CoreD} {lv sv : Value} {G : List Nat} (h : CoreBlk w n c lv sv) (k : Keeps G w w') (hn : n ∉ G) : CoreBlk w' n c lv sv := (k.block n h.lt hn).trans h
def Off (n : Nat) (lv : Value) (b : Nat) : Prop := b ≠ n ∧ b ∉ ownB lv
structure CoreAt (w : World) (B n : Nat) (c : CoreD) (lv sv : Value) : Prop where
 blk : CoreBlk w n c lv sv
 own : OwnAt entL 179 w B (fun b => Off n lv b ∧ ¬ c.ban b) lv c.l
 snap : BytesAt w (fun b => Off n lv b ∧ ¬ c.ban b) sv c.snap
 apart : n ∉ ownB lv
 base : B ≤ n
 old : ∀ b, c.ban b → b < w.heap.size
 free : ¬ c.ban n ∧ ∀ b ∈ ownB lv, ¬ c.ban b
 ok : CoreOk c
theorem CoreAt.keepB {w w' : World} {B n : Nat} {c : CoreD} {lv sv : Value} {G : List Nat} (h : CoreAt w B n c lv sv) (k : Keeps G w w') (hn : n ∉ G) (hv : ∀ b ∈ ownB lv, b ∉ G) (hG : ∀ b ∈ G, ¬ Off n lv b ∨ c.ban b ∨ w.heap.size ≤ b) : CoreAt w' B n c lv sv := by
 have hP : ∀ b, ((Off n lv b ∧ ¬ c.ban b) ∧ b < w.heap.size) → b ∉ G := fun b hb hb' => by
  rcases hG b hb' with h | h | h
  ·exact h hb.1.1
  ·exact hb.1.2 h
  ·omega
 exact { blk := h.blk.keep k hn, own := ((h.own.mono (P' := fun b => (Off n lv b ∧ ¬ c.ban b) ∧ b < w.heap.size) (fun b h1 h2 => ⟨h2, h1⟩)).keep k hv hP).mono (fun b _ h => h.1),
         snap := ((h.snap.mono (P' := fun b => (Off n lv b ∧ ¬ c.ban b) ∧ b < w.heap.size) (fun b h1 h2 => ⟨h2, h1⟩)).keep k hP).mono (fun b _ h => h.1), apart := h.apart, base := h.base, old := fun b hb => Nat.lt_of_lt_of_le (h.old b hb) k.size, free := h.free, ok := h.ok }
theorem CoreAt.keep {w w' : World} {B n : Nat} {c : CoreD} {lv sv : Value} {G : List Nat} (h : CoreAt w B n c lv sv) (k : Keeps G w w') (hn : n ∉ G) (hv : ∀ b ∈ ownB lv, b ∉ G) (hG : ∀ b ∈ G, ¬ Off n lv b ∨ w.heap.size ≤ b) : CoreAt w' B n c lv sv :=
 h.keepB k hn hv (fun b hb => (hG b hb).imp (fun h => h) .inr)
theorem CoreAt.k {w w' : World} {B n : Nat} {c : CoreD} {lv sv : Value} (h : CoreAt w B n c lv sv) (k : Keeps [] w w') : CoreAt w' B n c lv sv := h.keep k (by simp) (fun _ _ h => by cases h) (fun _ h => by cases h)
theorem CoreAt.form {w : World} {B n : Nat} {c : CoreD} {lv sv : Value} (h : CoreAt w B n c lv sv) : ∃ a k, lv = .slice a c.l.length k := h.own.form
theorem own_any (e : Ent) (v : Value) (w : World) (hr : Reads w 1 v e.data.length (u8s e.data)) (hb : e.data.length ≤ 140737488355328) :
 Calls Tryz.prog 106 #[entV e v] w fun x w' => ∃ a c, x = .returned (entV e (.slice a e.data.length c)) ∧ w'.ownsRow w.heap.size 5 1 (.slice a e.data.length c) e.data.length (u8s e.data) ∧ Keeps [] w w' := by
 unfold entV
 have HR : Hid (∀ o, Reads (w.alloc o) 1 v e.data.length (u8s e.data)) := fun o => hr.keeps ((Keeps.refl [] w).alloc o) (fun _ _ h => by cases h)
 clear hr
 go_enter Tryz.func106, Tryz.ntmps106
 go_wp2_with fail
 refine (listB_any v e.data _ ((HR.out _).keeps ((Keeps.refl [] _).alloc _) (fun _ _ h => by cases h)) hb).mono ?_
 rintro x w1 ⟨a, c, rfl, o1, k1⟩
 have c0 : w1.cell? ⟨w.heap.size, 0, none⟩ = some (.int .i64 e.term) := (k1.cell (by simp; omega) (by simp)).trans (by simp)
 have c1 : w1.cell? ⟨w.heap.size, 1, none⟩ = some (.bool e.cmd) := (k1.cell (by simp; omega) (by simp)).trans (by simp)
 have c2 : w1.cell? ⟨w.heap.size, 2, none⟩ = some v := (k1.cell (by simp; omega) (by simp)).trans (by simp)
 have f2 : w1.frozen? ⟨w.heap.size, 2, none⟩ = false := (k1.frozen (by simp; omega) (by simp)).trans (by simp)
 have d0 : w1.cell? ⟨w.heap.size + 1, 0, none⟩ = some (.int .i64 0) := (k1.cell (by simp) (by simp)).trans (by simp)
 have d1 : w1.cell? ⟨w.heap.size + 1, 1, none⟩ = some (.bool false) := (k1.cell (by simp) (by simp)).trans (by simp)
 have d2 : w1.cell? ⟨w.heap.size + 1, 2, none⟩ = some (.slice none 0 0) := (k1.cell (by simp) (by simp)).trans (by simp)
 have g0 : w1.frozen? ⟨w.heap.size + 1, 0, none⟩ = false := (k1.frozen (by simp) (by simp)).trans (by simp)
 have g1 : w1.frozen? ⟨w.heap.size + 1, 1, none⟩ = false := (k1.frozen (by simp) (by simp)).trans (by simp)
 have g2 : w1.frozen? ⟨w.heap.size + 1, 2, none⟩ = false := (k1.frozen (by simp) (by simp)).trans (by simp)
 have O1 := hid o1
 have K1 := hid k1
 have Z1 : Hid (w.heap.size + 2 ≤ w1.heap.size) := by have := k1.size; simp at this; exact this
 clear o1 k1
 go_wp2_with fail
 have KF : Keeps [w.heap.size, w.heap.size + 1] w1 ((((w1.setCell ⟨w.heap.size, 2, none⟩ (.slice a e.data.length c)).setCell ⟨w.heap.size + 1, 0, none⟩ (.int .i64 e.term)).setCell ⟨w.heap.size + 1, 1, none⟩ (.bool e.cmd)).setCell ⟨w.heap.size + 1, 2, none⟩ (.slice a e.data.length c)) :=
  ((((Keeps.refl _ _).setCell (.inl (by simp)) _).setCell (.inl (by simp)) _).setCell (.inl (by simp)) _).setCell (.inl (by simp)) _
 refine bodyPost_ret (v := .agg #[.int .i64 e.term, .bool e.cmd, .slice a e.data.length c]) (by simp [results, Tryz.results106, go_sem, d0, d1, d2]) rfl ⟨a, c, rfl, ownsRow_base (ownsRow_keeps O1.out KF (fun b hb hb' => ?_)) (by simp; omega), ?_⟩
 ·have := (ownB_ge O1.out b hb).1
  simp at this hb'
  omega
 ·exact ((((Keeps.refl [] w).alloc _).alloc _).trans K1.out (fun _ _ h => h)).trans KF (fun b hb hb' => by simp at hb'; omega)
section
variable (w : World) (B n : Nat) (c : CoreD) (lv sv : Value) (h : CoreAt w B n c lv sv)
include h
theorem cTerm_any : Calls Tryz.prog 23 #[.pointer (some ⟨n, 0, none⟩)] w fun e w' => e = .returned (.int .i64 c.term) ∧ w' = w := by
 have h1 : w.cell? ⟨n, 10, none⟩ = some (.int .i64 c.term) := h.blk.cell 10
 clear h
 go_enter Tryz.func23, Tryz.ntmps23
 go_wp2
 go_ret
 exact ⟨rfl, rfl⟩
theorem cVote_any : Calls Tryz.prog 47 #[.pointer (some ⟨n, 0, none⟩)] w fun e w' => e = .returned (.int .i64 c.vote) ∧ w' = w := by
 have h1 : w.cell? ⟨n, 11, none⟩ = some (.int .i64 c.vote) := h.blk.cell 11
 clear h
 go_enter Tryz.func47, Tryz.ntmps47
 go_wp2
 go_ret
 exact ⟨rfl, rfl⟩
theorem cLeader_any : Calls Tryz.prog 22 #[.pointer (some ⟨n, 0, none⟩)] w fun e w' => e = .returned (.int .i64 c.leader) ∧ w' = w := by
 have h1 : w.cell? ⟨n, 13, none⟩ = some (.int .i64 c.leader) := h.blk.cell 13
 clear h
 go_enter Tryz.func22, Tryz.ntmps22
 go_wp2
 go_ret
 exact ⟨rfl, rfl⟩
theorem cCommit_any : Calls Tryz.prog 49 #[.pointer (some ⟨n, 0, none⟩)] w fun e w' => e = .returned (.int .i64 c.commit) ∧ w' = w := by
 have h1 : w.cell? ⟨n, 14, none⟩ = some (.int .i64 c.commit) := h.blk.cell 14
 clear h
 go_enter Tryz.func49, Tryz.ntmps49
 go_wp2
 go_ret
 exact ⟨rfl, rfl⟩
theorem cBase_any : Calls Tryz.prog 48 #[.pointer (some ⟨n, 0, none⟩)] w fun e w' => e = .returned (.tuple #[.int .i64 c.base, .int .i64 c.baseTerm]) ∧ ∃ k, w' = w.drewN k := by
 have h1 : w.cell? ⟨n, 15, none⟩ = some (.int .i64 c.base) := h.blk.cell 15
 have h2 : w.cell? ⟨n, 16, none⟩ = some (.int .i64 c.baseTerm) := h.blk.cell 16
 clear h
 go_enter Tryz.func48, Tryz.ntmps48
 go_wp2
 go_quiet (fail)
 go_wp2
 go_ret2
 exact ⟨rfl, _, rfl⟩
theorem cLast_any : Calls Tryz.prog 71 #[.pointer (some ⟨n, 0, none⟩)] w fun e w' => e = .returned (.int .i64 (lastD c)) ∧ ∃ k, w' = w.drewN k := by
 obtain ⟨a, k, hf⟩ := h.form
 have h1 : w.cell? ⟨n, 15, none⟩ = some (.int .i64 c.base) := h.blk.cell 15
 have h2 : w.cell? ⟨n, 17, none⟩ = some (.slice a c.l.length k) := (h.blk.cell 17).trans (by rw [hf]; rfl)
 have b1 := h.ok.base.1
 have b2 := h.ok.last
 have b3 := h.ok.len
 clear h hf
 go_enter Tryz.func71, Tryz.ntmps71
 go_wp2
 go_quiet (fail)
 go_wp2
 go_ret
 exact ⟨rfl, _, rfl⟩
omit h in
theorem OwnAt.ent {w : World} {B : Nat} {P : Nat → Prop} {lv : Value} {l : List Ent} (h : OwnAt entL 179 w B P lv l) {j : Nat} {e : Ent} (he : l[j]? = some e) : ∃ g k v, lv = .slice (some ⟨g, 0, none⟩) l.length k ∧ l.length ≤ k ∧ k ≤ maxLen ∧ w.cell? ⟨g, j * 3, none⟩ = some (.int .i64 e.term) ∧ w.cell? ⟨g, j * 3 + 1, none⟩ = some (.bool e.cmd) ∧ w.cell? ⟨g, j * 3 + 2, none⟩ = some v ∧ BytesAt w P v e.data := by
 have hj : j < l.length := (List.getElem?_eq_some_iff.1 he).1
 obtain ⟨css, h1, h2⟩ := h
 rcases h2.2 with ⟨_, h0⟩ | ⟨g, k, cur, rfl, _, _, hk, hm, _⟩
 ·omega
 ·have hl : ListAt entL w (fun _ => True) (.slice (some ⟨g, 0, none⟩) l.length k) l := ⟨css, h1.mono (fun _ _ _ => trivial), Reads.ofOwn h2, fun _ _ _ => trivial⟩
  obtain ⟨cs, h3, h4⟩ := hl.get he
  have hc : css[j]? = some (css[j]'(by rw [h1.1]; exact hj)) := List.getElem?_eq_getElem _
  obtain ⟨v, e1, h5⟩ := h1.2 j _ _ hc he
  refine ⟨g, k, v, rfl, hk, hm, ?_, ?_, ?_, h5⟩
  all_goals
   rw [h2.cellAt _ (by show _ < _ * 3; omega)]
  ·have := flatten_get (n := 3) h1.lens hc (j := 0) (by omega)
   rw [e1] at this
   simpa using this
  ·have := flatten_get (n := 3) h1.lens hc (j := 1) (by omega)
   rw [e1] at this
   simpa using this
  ·have := flatten_get (n := 3) h1.lens hc (j := 2) (by omega)
   rw [e1] at this
   simpa using this
theorem cAt_any (i : Int) (b1 : -4611686018427387904 ≤ i) (b2 : i ≤ 4611686018427387904) : Calls Tryz.prog 136 #[.pointer (some ⟨n, 0, none⟩), .int .i64 i] w fun e w' => e = .returned (.tuple #[.int .i64 (atD c i).1, .bool (atD c i).2]) ∧ ∃ k, w' = w.drewN k := by
 have h1 : w.cell? ⟨n, 15, none⟩ = some (.int .i64 c.base) := h.blk.cell 15
 have h2 : w.cell? ⟨n, 16, none⟩ = some (.int .i64 c.baseTerm) := h.blk.cell 16
 have o1 := h.ok.base.1
 have o2 := h.ok.last
 have o3 := h.ok.len
 by_cases hb : i = c.base
 ·subst hb
  clear h
  go_enter Tryz.func136, Tryz.ntmps136
  go_wp2
  go_ret2
  exact ⟨ret_ib (by simp [atD]) (by simp [atD]), 0, rfl⟩
 ·by_cases hlt : i < c.base
  ·have HE : Hid (atD c i = (0, false)) := by show _ = _; unfold atD; rw [if_neg hb, if_pos (.inl hlt)]
   clear h
   have hb' : (i == c.base) = false := by simpa using hb
   go_enter Tryz.func136, Tryz.ntmps136
   go_wp2
   go_ret2
   exact ⟨ret_ib (congrArg Prod.fst HE.out).symm (congrArg Prod.snd HE.out).symm, 0, rfl⟩
  ·have hb' : (i == c.base) = false := by simpa using hb
   have HL := hid (cLast_any w B n c lv sv h)
   by_cases hgt : lastD c < i
   ·have HE : Hid (atD c i = (0, false)) := by show _ = _; unfold atD; rw [if_neg hb, if_pos (.inr hgt)]
    clear h
    go_enter Tryz.func136, Tryz.ntmps136
    go_wp2_with (go_at_call 71; go_must (refine HL.out.mono ?_; rintro e w' ⟨rfl, k, rfl⟩))
    go_ret2
    exact ⟨ret_ib (congrArg Prod.fst HE.out).symm (congrArg Prod.snd HE.out).symm, k, rfl⟩
   ·obtain ⟨j, hj⟩ : ∃ j : Nat, i = c.base + 1 + j := ⟨(i - c.base - 1).toNat, by omega⟩
    have hjl : j < c.l.length := by unfold lastD at hgt; omega
    obtain ⟨e, he⟩ : ∃ e, c.l[j]? = some e := ⟨c.l[j], List.getElem?_eq_getElem hjl⟩
    obtain ⟨g, k, v, hf, _, _, e0, _⟩ := h.own.ent he
    have HE : Hid (atD c i = (e.term, true)) := by
     show _ = _
     unfold atD
     rw [if_neg hb, if_neg (by omega), show (i - c.base - 1).toNat = j by omega, he]
     rfl
    have h3 : w.cell? ⟨n, 17, none⟩ = some (.slice (some ⟨g, 0, none⟩) c.l.length k) := (h.blk.cell 17).trans (by rw [hf]; rfl)
    have w1 : IntKind.i64.wrap (i - c.base) = i - c.base := IntWalk.i64_in _ (by omega)
    have w2 : IntKind.i64.wrap (i - c.base - 1) = (j : Int) := by rw [IntWalk.i64_in _ (by omega)]; omega
    have j0 : (0 : Int) ≤ (j : Int) := Int.natCast_nonneg _
    have j1 : (j : Int) < (c.l.length : Int) := by omega
    have g1 : ¬ i < c.base := hlt
    have g2 : i ≤ lastD c := by omega
    clear h hf he hgt hj hjl
    go_enter Tryz.func136, Tryz.ntmps136
    go_wp2_with (go_at_call 71; go_must (refine HL.out.mono ?_; rintro e w' ⟨rfl, k, rfl⟩))
    go_quiet (fail)
    go_wp2
    go_ret2
    exact ⟨ret_ib (congrArg Prod.fst HE.out).symm (congrArg Prod.snd HE.out).symm, _, World.drewN_drewN ..⟩
end
theorem blk3 {w : World} {b : Nat} {x0 x1 x2 : Value} {t : TypeId} (h : w.heap[b]? = some (.cells #[x0, x1, x2] t (0, 0))) :
 (w.cell? ⟨b, 0, none⟩ = some x0 ∧ w.cell? ⟨b, 1, none⟩ = some x1 ∧ w.cell? ⟨b, 2, none⟩ = some x2) ∧ ∀ i, w.frozen? ⟨b, i, none⟩ = false :=
 ⟨⟨cell_of_block h 0, cell_of_block h 1, cell_of_block h 2⟩, fun i => frozen_of_row w b i _ _ h⟩
theorem blk10 {w : World} {b : Nat} {x0 x1 x2 x3 x4 x5 x6 x7 x8 x9 : Value} {t : TypeId} (h : w.heap[b]? = some (.cells #[x0, x1, x2, x3, x4, x5, x6, x7, x8, x9] t (0, 0))) :
 (w.cell? ⟨b, 0, none⟩ = some x0 ∧ w.cell? ⟨b, 1, none⟩ = some x1 ∧ w.cell? ⟨b, 2, none⟩ = some x2 ∧ w.cell? ⟨b, 3, none⟩ = some x3 ∧ w.cell? ⟨b, 4, none⟩ = some x4 ∧ w.cell? ⟨b, 5, none⟩ = some x5 ∧ w.cell? ⟨b, 6, none⟩ = some x6 ∧ w.cell? ⟨b, 7, none⟩ = some x7 ∧ w.cell? ⟨b, 8, none⟩ = some x8 ∧ w.cell? ⟨b, 9, none⟩ = some x9) ∧ ∀ i, w.frozen? ⟨b, i, none⟩ = false :=
 ⟨⟨cell_of_block h 0, cell_of_block h 1, cell_of_block h 2, cell_of_block h 3, cell_of_block h 4, cell_of_block h 5, cell_of_block h 6, cell_of_block h 7, cell_of_block h 8, cell_of_block h 9⟩, fun i => frozen_of_row w b i _ _ h⟩
theorem CoreBlk.set {w : World} {n : Nat} {c c' : CoreD} {lv sv lv' sv' : Value} (h : CoreBlk w n c lv sv) (i : Nat) (v : Value) (hs : (coreCells c lv sv).set i v = coreCells c' lv' sv') : CoreBlk (w.setCell ⟨n, i, none⟩ v) n c' lv' sv' := by
 unfold CoreBlk at *
 rw [heap_setCell_same w n i _ _ _ h, ← hs]
 simp
theorem CoreAt.wrote {w w' : World} {B n : Nat} {c c' : CoreD} {lv sv : Value} (h : CoreAt w B n c lv sv) (k : Keeps [n] w w') (hb : CoreBlk w' n c' lv sv) (hl : c'.l = c.l) (hs : c'.snap = c.snap) (ok : CoreOk c') (hban : c'.ban = c.ban := by rfl) : CoreAt w' B n c' lv sv :=
 { blk := hb, own := by rw [hl, hban]; exact h.own.keep k (fun b h1 h2 => by simp at h2; rw [h2] at h1; exact h.apart h1) (fun b h1 h2 => by simp at h2; exact h1.1.1 h2),
   snap := by rw [hs, hban]; exact h.snap.keep k (fun b h1 h2 => by simp at h2; exact h1.1.1 h2), apart := h.apart, base := h.base, old := fun b h1 => by rw [hban] at h1; exact Nat.lt_of_lt_of_le (h.old b h1) k.size, free := by rw [hban]; exact h.free, ok := ok }
theorem CoreAt.grow {w w1 w2 : World} {B n : Nat} {c c' : CoreD} {lv sv lv' : Value} {l' : List Ent} (h : CoreAt w B n c lv sv) (k1 : Keeps [] w w1) (ho : OwnAt entL 179 w2 B (fun b => (b ≠ n ∧ ¬ c.ban b) ∧ b ∉ ownB lv') lv' l') (k2 : Keeps (ownB lv) w1 w2) (hv : ∀ b ∈ ownB lv', b ∈ ownB lv ∨ w1.heap.size ≤ b)
 (hc : c' = { c with l := l' }) (ok : CoreOk c') : CoreAt (w2.setCell ⟨n, 17, none⟩ lv') B n c' lv' sv ∧ Keeps (n :: ownB lv) w (w2.setCell ⟨n, 17, none⟩ lv') := by
 have hlt := h.blk.lt
 have z1 := k1.size
 have ka : Keeps (ownB lv) w w2 := (k1.mono (G := ownB lv) (fun _ _ h => by cases h)).trans k2 (fun _ _ h => h)
 have hn' : n ∉ ownB lv' := fun hb => by
  rcases hv n hb with h1 | h1
  ·exact h.apart h1
  ·omega
 have kb : Keeps [n] w2 (w2.setCell ⟨n, 17, none⟩ lv') := (Keeps.refl _ _).setCell (.inl (by simp)) _
 have kab : Keeps (n :: ownB lv) w (w2.setCell ⟨n, 17, none⟩ lv') := (ka.mono (G := n :: ownB lv) (fun _ _ h => List.mem_cons_of_mem _ h)).trans kb (fun b _ hb => by simp at hb; simp [hb])
 refine ⟨{ blk := ?_, own := ?_, snap := ?_, apart := hn', base := h.base, old := ?_, free := ?_, ok := ok }, kab⟩
 ·subst hc
  exact (h.blk.keep ka h.apart).set 17 lv' rfl
 ·subst hc
  exact (ho.keep kb (fun b hb hb' => by simp at hb'; rw [hb'] at hb; exact hn' hb) (fun b hb hb' => by simp at hb'; exact hb.1.1 hb')).mono (fun b _ hb => ⟨⟨hb.1.1, hb.2⟩, hb.1.2⟩)
 ·subst hc
  have s1 := (BytesAt.mono (P' := fun b => (Off n lv b ∧ ¬ c.ban b) ∧ b < w.heap.size) h.snap (fun b h1 h2 => ⟨h2, h1⟩)).keep ka (fun b hb => hb.1.1.2)
  have s2 := s1.mono (P' := fun b => Off n lv' b ∧ ¬ c.ban b) (fun b _ hb => ⟨⟨hb.1.1.1, fun hb' => by
   rcases hv b hb' with h1 | h1
   ·exact hb.1.1.2 h1
   ·omega⟩, hb.1.2⟩)
  exact s2.keep kb (fun b hb hb' => by simp at hb'; exact hb.1.1 hb')
 ·subst hc
  exact fun b hb => Nat.lt_of_lt_of_le (h.old b hb) kab.size
 ·subst hc
  refine ⟨h.free.1, fun b hb hb' => ?_⟩
  rcases hv b hb with h1 | h1
  ·exact h.free.2 b h1 hb'
  ·have := h.old b hb'; omega
theorem ent_elem {w w1 : World} {e : Ent} {a : Option Addr} {q : Nat} {P : Nat → Prop} (ho : w1.ownsRow w.heap.size 5 1 (.slice a e.data.length q) e.data.length (u8s e.data)) (hP : ∀ b, w.heap.size ≤ b → P b) : ∀ wx, Keeps [] w1 wx → entL.at_ wx P [.int .i64 e.term, .bool e.cmd, .slice a e.data.length q] e :=
 fun _ kx => ⟨_, rfl, BytesAt.k (BytesAt.ofOwn ho rfl (fun b hb _ => hP b hb)) kx⟩
theorem CoreAt.lt {w : World} {B n : Nat} {c : CoreD} {lv sv : Value} (h : CoreAt w B n c lv sv) : ∀ b ∈ n :: ownB lv, B ≤ b ∧ b < w.heap.size := by
 intro b hb
 rcases List.mem_cons.1 hb with rfl | hb
 ·exact ⟨h.base, h.blk.lt⟩
 ·exact h.own.ge b hb
theorem blk9 {w : World} {b : Nat} {x0 x1 x2 x3 x4 x5 x6 x7 x8 : Value} {t : TypeId} (h : w.heap[b]? = some (.cells #[x0, x1, x2, x3, x4, x5, x6, x7, x8] t (0, 0))) :
 (w.cell? ⟨b, 0, none⟩ = some x0 ∧ w.cell? ⟨b, 1, none⟩ = some x1 ∧ w.cell? ⟨b, 2, none⟩ = some x2 ∧ w.cell? ⟨b, 3, none⟩ = some x3 ∧ w.cell? ⟨b, 4, none⟩ = some x4 ∧ w.cell? ⟨b, 5, none⟩ = some x5 ∧ w.cell? ⟨b, 6, none⟩ = some x6 ∧ w.cell? ⟨b, 7, none⟩ = some x7 ∧ w.cell? ⟨b, 8, none⟩ = some x8) ∧ ∀ i, w.frozen? ⟨b, i, none⟩ = false :=
 ⟨⟨cell_of_block h 0, cell_of_block h 1, cell_of_block h 2, cell_of_block h 3, cell_of_block h 4, cell_of_block h 5, cell_of_block h 6, cell_of_block h 7, cell_of_block h 8⟩, fun i => frozen_of_row w b i _ _ h⟩
theorem cMay_is (r : Bool) (c : ConfD) (w : World) (h : c.may = r) : Calls Tryz.prog 32 #[confV c] w fun e w' => e = .returned (.bool r) ∧ Keeps [] w w' := by rw [← h]; exact cMay_any c w
def headD (cf : ConfD) (id term vote base baseTerm : Int) (n : Nat) : Bool :=
 cf.may && inD id 1 cf.nodes && inD term 0 1099511627776 && inD vote 0 cf.nodes && inD base 0 1099511622680 && inD baseTerm 0 1099511627776 && decide (n ≤ 5096)
theorem mayNew_head (cf : ConfD) (id term vote base baseTerm : Int) (l : List Ent) : mayNewD cf id term vote base baseTerm l = (headD cf id term vote base baseTerm l.length && l.all fun e => inD e.term 1 1099511627776) := rfl
def NewNo (w : World) (e : Ending) (w' : World) : Prop := e = .returned (.tuple #[.pointer none, .int .i64 1]) ∧ Keeps [] w w'
theorem cNew_head (cf : ConfD) (id term vote base baseTerm : Int) (l : List Ent) (a : Option Addr) (cap : Nat) (w : World) (h : headD cf id term vote base baseTerm l.length = false) :
 Calls Tryz.prog 37 #[confV cf, .int .i64 id, .int .i64 term, .int .i64 vote, .int .i64 base, .int .i64 baseTerm, .slice a l.length cap] w (NewNo w) := by
 rcases hb0 : cf.may with _ | _
 ·have F0 := hid hb0
  clear hb0 h
  unfold confV
  go_enter Tryz.func37, Tryz.ntmps37
  go_wp2_with fail
  refine (cMay_is false cf _ F0.out).mono ?_
  rintro e w1 ⟨rfl, k1⟩
  have K1 : Hid (Keeps [] w w1) := (((Keeps.refl [] w).alloc _).trans k1 (fun _ _ h => h))
  obtain ⟨⟨c0, c1, c2, c3, c4, c5, c6, c7, c8⟩, f1⟩ := blk9 ((k1.block w.heap.size (by simp) (by simp)).trans (heap_alloc_new w _))
  clear k1
  go_wp2_with fail
  go_ret2
  exact ⟨rfl, K1.out⟩
 have F0 := hid hb0
 clear hb0
 rcases hb1 : inD id 1 cf.nodes with _ | _
 ·have F1 := hid hb1
  clear hb1 h
  unfold confV
  go_enter Tryz.func37, Tryz.ntmps37
  go_wp2_with fail
  refine (cMay_is true cf _ F0.out).mono ?_
  rintro e w1 ⟨rfl, k1⟩
  have K1 : Hid (Keeps [] w w1) := (((Keeps.refl [] w).alloc _).trans k1 (fun _ _ h => h))
  obtain ⟨⟨c0, c1, c2, c3, c4, c5, c6, c7, c8⟩, f1⟩ := blk9 ((k1.block w.heap.size (by simp) (by simp)).trans (heap_alloc_new w _))
  clear k1
  go_wp2_with fail
  refine (cin_is false _ _ _ _ F1.out).mono ?_
  rintro e w' ⟨rfl, hw'⟩
  subst hw'
  go_wp2_with fail
  go_ret2
  exact ⟨rfl, K1.out⟩
 have F1 := hid hb1
 clear hb1
 rcases hb2 : inD term 0 1099511627776 with _ | _
 ·have F2 := hid hb2
  clear hb2 h
  unfold confV
  go_enter Tryz.func37, Tryz.ntmps37
  go_wp2_with fail
  refine (cMay_is true cf _ F0.out).mono ?_
  rintro e w1 ⟨rfl, k1⟩
  have K1 : Hid (Keeps [] w w1) := (((Keeps.refl [] w).alloc _).trans k1 (fun _ _ h => h))
  obtain ⟨⟨c0, c1, c2, c3, c4, c5, c6, c7, c8⟩, f1⟩ := blk9 ((k1.block w.heap.size (by simp) (by simp)).trans (heap_alloc_new w _))
  clear k1
  go_wp2_with fail
  refine (cin_is true _ _ _ _ F1.out).mono ?_
  rintro e w' ⟨rfl, hw'⟩
  subst hw'
  go_wp2_with fail
  refine (cin_is false _ _ _ _ F2.out).mono ?_
  rintro e w' ⟨rfl, hw'⟩
  subst hw'
  go_wp2_with fail
  go_ret2
  exact ⟨rfl, K1.out⟩
 have F2 := hid hb2
 clear hb2
 rcases hb3 : inD vote 0 cf.nodes with _ | _
 ·have F3 := hid hb3
  clear hb3 h
  unfold confV
  go_enter Tryz.func37, Tryz.ntmps37
  go_wp2_with fail
  refine (cMay_is true cf _ F0.out).mono ?_
  rintro e w1 ⟨rfl, k1⟩
  have K1 : Hid (Keeps [] w w1) := (((Keeps.refl [] w).alloc _).trans k1 (fun _ _ h => h))
  obtain ⟨⟨c0, c1, c2, c3, c4, c5, c6, c7, c8⟩, f1⟩ := blk9 ((k1.block w.heap.size (by simp) (by simp)).trans (heap_alloc_new w _))
  clear k1
  go_wp2_with fail
  refine (cin_is true _ _ _ _ F1.out).mono ?_
  rintro e w' ⟨rfl, hw'⟩
  subst hw'
  go_wp2_with fail
  refine (cin_is true _ _ _ _ F2.out).mono ?_
  rintro e w' ⟨rfl, hw'⟩
  subst hw'
  go_wp2_with fail
  refine (cin_is false _ _ _ _ F3.out).mono ?_
  rintro e w' ⟨rfl, hw'⟩
  subst hw'
  go_wp2_with fail
  go_ret2
  exact ⟨rfl, K1.out⟩
 have F3 := hid hb3
 clear hb3
 rcases hb4 : inD base 0 1099511622680 with _ | _
 ·have F4 := hid hb4
  clear hb4 h
  unfold confV
  go_enter Tryz.func37, Tryz.ntmps37
  go_wp2_with fail
  refine (cMay_is true cf _ F0.out).mono ?_
  rintro e w1 ⟨rfl, k1⟩
  have K1 : Hid (Keeps [] w w1) := (((Keeps.refl [] w).alloc _).trans k1 (fun _ _ h => h))
  obtain ⟨⟨c0, c1, c2, c3, c4, c5, c6, c7, c8⟩, f1⟩ := blk9 ((k1.block w.heap.size (by simp) (by simp)).trans (heap_alloc_new w _))
  clear k1
  go_wp2_with fail
  refine (cin_is true _ _ _ _ F1.out).mono ?_
  rintro e w' ⟨rfl, hw'⟩
  subst hw'
  go_wp2_with fail
  refine (cin_is true _ _ _ _ F2.out).mono ?_
  rintro e w' ⟨rfl, hw'⟩
  subst hw'
  go_wp2_with fail
  refine (cin_is true _ _ _ _ F3.out).mono ?_
  rintro e w' ⟨rfl, hw'⟩
  subst hw'
  go_wp2_with fail
  refine (cin_is false _ _ _ _ F4.out).mono ?_
  rintro e w' ⟨rfl, hw'⟩
  subst hw'
  go_wp2_with fail
  go_ret2
  exact ⟨rfl, K1.out⟩
 have F4 := hid hb4
 clear hb4
 rcases hb5 : inD baseTerm 0 1099511627776 with _ | _
 ·have F5 := hid hb5
  clear hb5 h
  unfold confV
  go_enter Tryz.func37, Tryz.ntmps37
  go_wp2_with fail
  refine (cMay_is true cf _ F0.out).mono ?_
  rintro e w1 ⟨rfl, k1⟩
  have K1 : Hid (Keeps [] w w1) := (((Keeps.refl [] w).alloc _).trans k1 (fun _ _ h => h))
  obtain ⟨⟨c0, c1, c2, c3, c4, c5, c6, c7, c8⟩, f1⟩ := blk9 ((k1.block w.heap.size (by simp) (by simp)).trans (heap_alloc_new w _))
  clear k1
  go_wp2_with fail
  refine (cin_is true _ _ _ _ F1.out).mono ?_
  rintro e w' ⟨rfl, hw'⟩
  subst hw'
  go_wp2_with fail
  refine (cin_is true _ _ _ _ F2.out).mono ?_
  rintro e w' ⟨rfl, hw'⟩
  subst hw'
  go_wp2_with fail
  refine (cin_is true _ _ _ _ F3.out).mono ?_
  rintro e w' ⟨rfl, hw'⟩
  subst hw'
  go_wp2_with fail
  refine (cin_is true _ _ _ _ F4.out).mono ?_
  rintro e w' ⟨rfl, hw'⟩
  subst hw'
  go_wp2_with fail
  refine (cin_is false _ _ _ _ F5.out).mono ?_
  rintro e w' ⟨rfl, hw'⟩
  subst hw'
  go_wp2_with fail
  go_ret2
  exact ⟨rfl, K1.out⟩
 have F5 := hid hb5
 clear hb5
 rcases hb6 : decide (l.length ≤ 5096) with _ | _
 ·have F6 := hid hb6
  have hl5 : (5096 : Int) < (l.length : Int) := by simp at hb6; omega
  clear hb6 h
  unfold confV
  go_enter Tryz.func37, Tryz.ntmps37
  go_wp2_with fail
  refine (cMay_is true cf _ F0.out).mono ?_
  rintro e w1 ⟨rfl, k1⟩
  have K1 : Hid (Keeps [] w w1) := (((Keeps.refl [] w).alloc _).trans k1 (fun _ _ h => h))
  obtain ⟨⟨c0, c1, c2, c3, c4, c5, c6, c7, c8⟩, f1⟩ := blk9 ((k1.block w.heap.size (by simp) (by simp)).trans (heap_alloc_new w _))
  clear k1
  go_wp2_with fail
  refine (cin_is true _ _ _ _ F1.out).mono ?_
  rintro e w' ⟨rfl, hw'⟩
  subst hw'
  go_wp2_with fail
  refine (cin_is true _ _ _ _ F2.out).mono ?_
  rintro e w' ⟨rfl, hw'⟩
  subst hw'
  go_wp2_with fail
  refine (cin_is true _ _ _ _ F3.out).mono ?_
  rintro e w' ⟨rfl, hw'⟩
  subst hw'
  go_wp2_with fail
  refine (cin_is true _ _ _ _ F4.out).mono ?_
  rintro e w' ⟨rfl, hw'⟩
  subst hw'
  go_wp2_with fail
  refine (cin_is true _ _ _ _ F5.out).mono ?_
  rintro e w' ⟨rfl, hw'⟩
  subst hw'
  have hlen : (5096 : Int) < (l.length : Int) := hl5
  go_wp2_with fail
  go_ret2
  exact ⟨rfl, K1.out⟩
 have F6 := hid hb6
 clear hb6
 exfalso
 simp [headD, show (cf.may) = true from F0.out, show (inD id 1 cf.nodes) = true from F1.out, show (inD term 0 1099511627776) = true from F2.out, show (inD vote 0 cf.nodes) = true from F3.out, show (inD base 0 1099511622680) = true from F4.out, show (inD baseTerm 0 1099511627776) = true from F5.out] at h
 have := F6.out
 simp at this
 omega
theorem mayNew_take {cf : ConfD} {id term vote base baseTerm : Int} {l l' : List Ent} (h : headD cf id term vote base baseTerm l.length = true) (hl : l'.length ≤ l.length) (ha : ∀ e ∈ l', inD e.term 1 1099511627776 = true) : mayNewD cf id term vote base baseTerm l' = true := by
 rw [mayNew_head]
 simp only [Bool.and_eq_true, List.all_eq_true]
 refine ⟨?_, ha⟩
 simp only [headD, Bool.and_eq_true, decide_eq_true_eq] at h ⊢
 exact ⟨h.1, by omega⟩
def str (l : List UInt8) : ByteArray := ⟨l.toArray⟩
@[simp] theorem str_toList (l : List UInt8) : (str l).toList = l := ByteArray.toList_mk l
theorem foldl_push (l : List UInt8) : ∀ s : ByteArray, (l.map fun b => (b.toNat : Int)).foldl (fun r n => r.push (UInt8.ofNat n.toNat)) s = ⟨(s.data.toList ++ l).toArray⟩ := by
 induction l with
 | nil => intro s; simp
 | cons b l ih =>
   intro s
   simp only [List.map_cons, List.foldl_cons]
   rw [ih]
   simp [ByteArray.push]
theorem run_convert_str {P : Program} (w : World) (src dst e : TypeId) (v : Value) (bs : List UInt8) (hs : P.underlying src = some (.slice e)) (he : P.underlying e = some (.int .u8)) (hd : P.underlying dst = some .string)
 (hr : Reads w 1 v bs.length (u8s bs)) : (convert src dst v).run P w = .ok (.string (str bs)) w := by
 obtain ⟨hl, ⟨h0, a, c, rfl⟩ | ⟨hp, b, off, c, rfl, hnc, hc, hb, hx⟩⟩ := hr
 ·obtain rfl : bs = [] := List.eq_nil_of_length_eq_zero h0
  rw [run_convert_bytes_string w src dst e a 0 c hs he hd]
  cases a with
  | none => rfl
  | some a =>
    rw [run_bytesToString w a 0 c [] (by simp [loadCells, loadCellsFrom])]
    rfl
 ·rw [run_convert_bytes_string w src dst e _ _ c hs he hd]
  have hld : (loadCells ⟨b, off, none⟩ bs.length).run P w = .ok ((bs.map fun b => (b.toNat : Int)).map (Value.int .u8)).toArray w := by
   have := run_loadCells_list (P := P) w ⟨b, off, none⟩ (u8s bs) (fun j u hu => by rw [addr_add]; exact hx j u hu)
   rw [u8s_length] at this
   rw [this]
   simp [u8s, Function.comp_def]
  rw [run_bytesToString w _ _ c _ hld, foldl_push]
  rfl
end Go.Proofs.YtgjiahilbmeaeaaGreatDoor