/- Joined of NdL, NdM, NdO, NdQ, DkB, DkC, DkD. -/
import Derived.Test.YtgjiahilbmeaeaaGreatDoorQ06
import Derived.Test.YtgjiahilbmeaeaaGreatDoorQ03
import Derived.Carry
import Derived.Outline
import Derived.Maps.RangeWalk
set_option maxRecDepth 100000
set_option maxHeartbeats 4000000
set_option linter.unusedSimpArgs false
set_option linter.unusedVariables false
/- A disk: may these be names? -/
namespace Go.Proofs.YtgjiahilbmeaeaaGreatDoor
open Go Go.RowKit
def namedS (s : ByteArray) : Bool := decide (1 ≤ s.size ∧ s.size ≤ 32)
theorem dkNamed_any (w : World) (g : Nat) (l : List ByteArray) (hl : l.length ≤ 2) (hc : ∀ (i : Nat) (s : ByteArray), l[i]? = some s → w.cell? ⟨g, i, none⟩ = some (.string s)) :
 Calls Tryz.prog 163 #[.slice (some ⟨g, 0, none⟩) l.length l.length] w fun e w' => e = .returned (.bool (l.all namedS)) ∧ Keeps [] w w' := by
 have HC := hid hc
 clear hc
 go_enter Tryz.func163, Tryz.ntmps163
 go_wp2_with fail
 go_loopw [7] (fun i wr => ∃ k : Nat, i = .int .i64 (k : Int) ∧ k ≤ l.length ∧ Hid ((l.take k).all namedS = true ∧ Keeps [] w wr)) (fun i _ => l.length - (intOf i).toNat)
 case atStart => exact ⟨0, rfl, Nat.zero_le _, rfl, by exact Keeps.K⟩
 case round =>
  obtain ⟨k, rfl, hk, hW⟩ := hrel
  have HW := hid hW
  clear hW
  have j0 : (0 : Int) ≤ (k : Int) := Int.natCast_nonneg _
  by_cases hlt : k < l.length
  ·have i1 : (k : Int) < (l.length : Int) := by omega
   have hw1 : IntKind.i64.wrap ((k : Int) + 1) = (k : Int) + 1 := by rw [IntKind.wrap_i64]; omega
   obtain ⟨s, hs⟩ : ∃ s, l[k] = s := ⟨_, rfl⟩
   have hs' : l[k]? = some s := by rw [List.getElem?_eq_getElem hlt, hs]
   have hcell : wr.cell? ⟨g, k, none⟩ = some (.string s) := HW.out.2.cellSome (HC.out k s hs') (by simp)
   have HS := hid hs'
   have HLT := hid hlt
   clear hs hs'
   by_cases h1 : s.size < 1
   ·have q1 : (s.size : Int) < 1 := by omega
    have HN : Hid (l.all namedS = false) := by
     show _ = _
     rw [List.all_eq_false]
     exact ⟨s, List.mem_of_getElem? HS.out, by simp [namedS]; omega⟩
    go_wp2_with fail
    go_ret
    exact ⟨by rw [HN.out]; rfl, HW.out.2⟩
   ·have q1 : ((s.size : Int) < 1) = False := eq_false (by omega)
    by_cases h2 : 32 < s.size
    ·have q2 : 32 < (s.size : Int) := by omega
     have HN : Hid (l.all namedS = false) := by
      show _ = _
      rw [List.all_eq_false]
      exact ⟨s, List.mem_of_getElem? HS.out, by simp [namedS]; omega⟩
     go_wp2_with fail
     go_ret
     exact ⟨by rw [HN.out]; rfl, HW.out.2⟩
    ·have q2 : (32 < (s.size : Int)) = False := eq_false (by omega)
     have HN : Hid ((l.take (k + 1)).all namedS = true) := by
      show _ = _
      rw [List.take_add_one, HS.out, List.all_append, HW.out.1]
      simp [namedS]
      omega
     go_wp2_with fail
     exact ⟨⟨k + 1, rfl, by have := HLT.out; omega, HN.out, HW.out.2⟩, by have := HLT.out; simp [intOf]; omega⟩
  ·have i1 : (l.length : Int) ≤ (k : Int) := by omega
   obtain rfl : k = l.length := by omega
   have HN : Hid (l.all namedS = true) := by have := HW.out.1; rw [List.take_length] at this; exact this
   go_wp2_with fail
   go_ret
   exact ⟨by rw [HN.out]; rfl, HW.out.2⟩
def KeepsP (F : Nat → Prop) (w w' : World) : Prop := ∃ G, Keeps G w w' ∧ ∀ x ∈ G, F x
theorem KeepsP.refl (F : Nat → Prop) (w : World) : KeepsP F w w := ⟨[], Keeps.refl _ _, fun _ h => by cases h⟩
theorem KeepsP.of {F : Nat → Prop} {G : List Nat} {w w' : World} (k : Keeps G w w') (h : ∀ x ∈ G, F x) : KeepsP F w w' := ⟨G, k, h⟩
theorem KeepsP.of0 {F : Nat → Prop} {w w' : World} (k : Keeps [] w w') : KeepsP F w w' := ⟨[], k, fun _ h => by cases h⟩
theorem KeepsP.mono {F F' : Nat → Prop} {w w' : World} (h : KeepsP F w w') (hF : ∀ x, x < w.heap.size → F x → F' x) : KeepsP F' w w' := by
 obtain ⟨G, k, hg⟩ := h
 exact ⟨G.filter (fun x => decide (x < w.heap.size)), k.mono (fun x hx hm => by simp [hx, hm]), fun x hx => by simp at hx; exact hF x hx.2 (hg x hx.1)⟩
theorem KeepsP.trans {F F' : Nat → Prop} {w w1 w2 : World} (h : KeepsP F w w1) (h' : KeepsP F' w1 w2) (hF : ∀ x, x < w.heap.size → F' x → F x) : KeepsP F w w2 := by
 obtain ⟨G, k, hg⟩ := h
 obtain ⟨G', k', hg'⟩ := h'
 refine ⟨G ++ G'.filter (fun x => decide (x < w.heap.size)), (k.mono (G := G ++ G'.filter (fun x => decide (x < w.heap.size))) (fun x _ hm => by simp [hm])).trans k' (fun x hx hm => by simp [hx, hm]), fun x hx => ?_⟩
 simp at hx
 rcases hx with hx | hx
 ·exact hg x hx
 ·exact hF x hx.2 (hg' x hx.1)
theorem KeepsP.size {F : Nat → Prop} {w w' : World} (h : KeepsP F w w') : w.heap.size ≤ w'.heap.size := h.elim fun _ h => h.1.size
def ptrV (b : Nat) : Value := .pointer (some ⟨b, 0, none⟩)
def FileAt (w : World) (P : Nat → Prop) (fb : Nat) (f : FileD) : Prop :=
 ∃ a c, w.heap[fb]? = some (.cells #[.slice a f.b.length c, .int .i64 (f.sure : Int)] 246 (0, 0)) ∧ BytesAt w P (.slice a f.b.length c) f.b
def diskW (b bm : Nat) (L : List (Nm × (Nat × FileD))) : List Nat := b :: bm :: L.map (·.2.1)
def DiskAt (w : World) (F : Nat → Prop) (b : Nat) (d : DiskD) : Prop :=
 ∃ bm, ∃ L : List (Nm × (Nat × FileD)), d.files = mapA (·.2) L ∧ (diskW b bm L).Nodup ∧ (∀ x ∈ diskW b bm L, F x) ∧
   w.heap[b]? = some (.cells (diskRow d (.map (some bm))) 89 (0, 0)) ∧
   w.ownsMap Tryz.prog 9 heldR bm L.length (fmV (mapA (fun p => ptrV p.1) L)) ∧
   (∀ p ∈ L, FileAt w (fun c => F c ∧ c ∉ diskW b bm L) p.2.1 p.2.2)
def DiskPost (w : World) (F : Nat → Prop) (b : Nat) (d : DiskD) (w' : World) : Prop :=
 ∃ F', DiskAt w' F' b d ∧ (∀ x, F' x → F x ∨ w.heap.size ≤ x) ∧ KeepsP F w w'
def DiskOk (n : Nat) (d : DiskD) : Prop := 0 ≤ d.calls ∧ d.calls ≤ (n : Int) ∧ 0 ≤ d.after ∧ d.after ≤ 1099511627776
theorem FileAt.keep {w w' : World} {P : Nat → Prop} {G : List Nat} {fb : Nat} {f : FileD} (h : FileAt w P fb f) (k : Keeps G w w') (hb : fb ∉ G) (hP : ∀ c, P c → c ∉ G) : FileAt w' P fb f := by
 obtain ⟨a, c, h1, h2⟩ := h
 exact ⟨a, c, (k.block fb (Array.getElem?_eq_some_iff.1 h1).1 hb).trans h1, h2.keep k hP⟩
theorem FileAt.mono {w : World} {P P' : Nat → Prop} {fb : Nat} {f : FileD} (h : FileAt w P fb f) (hP : ∀ c, c < w.heap.size → P c → P' c) : FileAt w P' fb f := by
 obtain ⟨a, c, h1, h2⟩ := h
 exact ⟨a, c, h1, h2.mono hP⟩
theorem FileAt.lt {w : World} {P : Nat → Prop} {fb : Nat} {f : FileD} (h : FileAt w P fb f) : fb < w.heap.size := by
 obtain ⟨a, c, h1, h2⟩ := h
 exact (Array.getElem?_eq_some_iff.1 h1).1
theorem mem_diskW {b bm : Nat} {L : List (Nm × (Nat × FileD))} {p : Nm × (Nat × FileD)} (h : p ∈ L) : p.2.1 ∈ diskW b bm L := by
 unfold diskW
 simp only [List.mem_cons, List.mem_map]
 exact .inr (.inr ⟨p, h, rfl⟩)
theorem DiskAt.keep {w w' : World} {G : List Nat} {F : Nat → Prop} {b : Nat} {d : DiskD} (h : DiskAt w F b d) (k : Keeps G w w') (hG : ∀ x ∈ G, ¬ F x) : DiskAt w' F b d := by
 obtain ⟨bm, L, h1, h2, h3, h4, h5, h6⟩ := h
 have hn : ∀ x, F x → x ∉ G := fun x hx hg => hG x hg hx
 exact ⟨bm, L, h1, h2, h3, (k.block b (Array.getElem?_eq_some_iff.1 h4).1 (hn b (h3 b (by simp [diskW])))).trans h4, ownsFm_keep h5 k (hn bm (h3 bm (by simp [diskW]))),
  fun p hp => (h6 p hp).keep k (hn _ (h3 _ (mem_diskW hp))) (fun c hc => hn c hc.1)⟩
theorem DiskAt.k {w w' : World} {F : Nat → Prop} {b : Nat} {d : DiskD} (h : DiskAt w F b d) (k : Keeps [] w w') : DiskAt w' F b d := h.keep k (fun _ h => by cases h)
theorem DiskAt.row {w w' : World} {F : Nat → Prop} {b : Nat} {d d' : DiskD} {mp : Value} (h : DiskAt w F b d) (k : Keeps [b] w w') (hf : d'.files = d.files) (hb0 : w.heap[b]? = some (.cells (diskRow d mp) 89 (0, 0))) (hb : w'.heap[b]? = some (.cells (diskRow d' mp) 89 (0, 0))) : DiskAt w' F b d' := by
 obtain ⟨bm, L, h1, h2, h3, h4, h5, h6⟩ := h
 have h2' := h2
 unfold diskW at h2'
 rw [List.nodup_cons] at h2'
 have hbm : bm ≠ b := fun e => h2'.1 (by simp [e])
 have hmp : mp = .map (some bm) := by
  rw [h4] at hb0
  simp [diskRow] at hb0
  exact hb0.symm
 subst hmp
 exact ⟨bm, L, hf.trans h1, h2, h3, hb, ownsFm_keep h5 k (by simpa using hbm),
  fun p hp => (h6 p hp).keep k (fun hm => by simp at hm; exact h2'.1 (by rw [← hm]; exact List.mem_cons_of_mem _ (List.mem_map.2 ⟨p, hp, rfl⟩))) (fun c hc hm => by simp at hm; exact hc.2 (by rw [hm]; simp [diskW]))⟩
theorem zeroFile (w : World) : (zeroValue 244).run Tryz.prog w = .ok (.pointer none) w := by kernel_rfl
def ptrOf : Option Nat → Value
 | none => .pointer none
 | some b => ptrV b
theorem nameKey (name : Nm) (hn : name.length ≤ 1000) : keyOf Tryz.prog 9 (.string (str name)) = some (.string name) := by
 have := Go.WideMaps.keyOf_string_mk (P := Tryz.prog) Tryz.underlying9 (s := str name) (by show name.toArray.size ≤ _; rw [List.size_toArray]; unfold maxLen; omega)
 simpa [str] using this
theorem fm_look {w : World} {bm k : Nat} {L : List (Nm × (Nat × FileD))} (hm : w.ownsMap Tryz.prog 9 heldR bm k (fmV (mapA (fun p => ptrV p.1) L))) (name : Nm) (hn : name.length ≤ 1000) :
 (Instr.lookup 87 (.map (some bm)) (.string (str name)) false).run Tryz.prog w = .ok (ptrOf ((getA L name).map (·.1))) w := by
 obtain ⟨v, ps, hrun, hv⟩ := hm.lookup nameKeyed Tryz.underlying87 (zeroFile w) (zd := .held (.pointer none)) (zp := []) rfl (nameKey name hn)
 rw [fm_at, getA_map] at hv
 simp only [heldR, Option.some.injEq, Prod.mk.injEq, DataW.held.injEq] at hv
 obtain ⟨rfl, -⟩ := hv
 rw [hrun]
 cases getA L name <;> rfl
def foundV (name : Nm) (o : Option Nat) : Value := if fnamedP name = false then .tuple #[.pointer none, .int .i64 1] else .tuple #[ptrOf o, .int .i64 (if o.isNone then 3 else 0)]
theorem named_str (name : Nm) : namedS (str name) = fnamedP name := by
 unfold namedS fnamedP str
 simp [ByteArray.size]
theorem dkFind_any (w : World) (b bm k : Nat) (d : DiskD) (L : List (Nm × (Nat × FileD))) (name : Nm) (h : w.heap[b]? = some (.cells (diskRow d (.map (some bm))) 89 (0, 0))) (hm : w.ownsMap Tryz.prog 9 heldR bm k (fmV (mapA (fun p => ptrV p.1) L))) (hn : name.length ≤ 1000) :
 Calls Tryz.prog 155 #[.pointer (some ⟨b, 0, none⟩), .string (str name)] w fun e w' => e = .returned (foundV name ((getA L name).map (·.1))) ∧ Keeps [] w w' := by
 have HM := hid hm
 have x1 : w.cell? ⟨b, 1, none⟩ = some (.map (some bm)) := by unfold diskRow at h; exact cell_of_block h 1
 have HNL := hid hn
 clear h hm hn
 go_enter Tryz.func155, Tryz.ntmps155
 go_wp2_with fail
 have hna := dkNamed_any (w.alloc (.cells #[.string (str name)] 9)) w.heap.size [str name] (by simp) (fun i s hs => by
  cases i with
  | zero =>
    simp at hs
    subst hs
    exact cell_of_block (heap_alloc_new w _) 0
  | succ i => simp at hs)
 refine hna.mono ?_
 rintro e w2 ⟨rfl, hk⟩
 have hk2 : Keeps [] w w2 := Keeps.trans (F := []) (G := []) (by exact Keeps.K) hk (fun _ _ h => h)
 have K2 := hid hk2
 have y1 := hk2.cellSome x1 (by simp)
 have hrun := fm_look (ownsFm_keep HM.out hk2 (by simp)) name HNL.out
 rw [show ([str name].all namedS) = fnamedP name by simp [named_str]]
 clear hk hk2 x1 hna
 rcases hnm : fnamedP name with _ | _
 ·have HNM := hid hnm
  go_wp2_with fail
  refine bodyPost_ret (v := .tuple #[.pointer none, .int .i64 1]) (by simp [results, Tryz.results155, go_sem]) rfl ?_
  exact ⟨by unfold foundV; rw [if_pos HNM.out], K2.out⟩
 ·have HNM := hid hnm
  obtain ⟨o, ho⟩ : ∃ o, (getA L name).map (·.1) = o := ⟨_, rfl⟩
  rw [ho] at hrun
  have HO := hid ho
  clear ho
  rcases o with _ | fb
  ·simp only [ptrOf] at hrun
   go_wp2_with fail
   refine bodyPost_ret (v := .tuple #[.pointer none, .int .i64 3]) (by simp [results, Tryz.results155, go_sem]) rfl ?_
   exact ⟨by unfold foundV; rw [if_neg (by rw [HNM.out]; decide), HO.out]; rfl, K2.out⟩
  ·simp only [ptrOf, ptrV] at hrun
   go_wp2_with fail
   refine bodyPost_ret (v := .tuple #[.pointer (some ⟨fb, 0, none⟩), .int .i64 0]) (by simp [results, Tryz.results155, go_sem]) rfl ?_
   exact ⟨by unfold foundV; rw [if_neg (by rw [HNM.out]; decide), HO.out]; rfl, K2.out⟩
theorem new2K (w : World) (o o2 : Obj) : ((w.alloc o).alloc o2).heap[w.heap.size + 1]? = some o2 := by
 have e := heap_alloc_new (w.alloc o) o2
 rw [show (w.alloc o).heap.size = w.heap.size + 1 by simp] at e
 exact e
theorem dkNew_any (w : World) (room : Int) :
 Calls Tryz.prog 13 #[.int .i64 room] w fun e w' => e = .returned (.pointer (some ⟨w.heap.size + 1, 0, none⟩)) ∧ w'.heap[w.heap.size + 1]? = some (.cells (diskRow (diskNew room) (.map (some w.heap.size))) 89 (0, 0)) ∧ w'.ownsMap Tryz.prog 9 heldR w.heap.size 0 (fmV []) ∧ Keeps [] w w' := by
 have hmm := @run_makeMap Tryz.prog
 go_enter Tryz.func13, Tryz.ntmps13
 go_wp2_with fail
 all_goals
  go_ret
  refine ⟨rfl, ?_, ?_, by exact Keeps.K⟩
  ·refine (new2K w _ _).trans ?_
   simp [diskRow, diskNew] <;> omega
  ·exact (World.ownsMap_made w Tryz.prog 9 heldR).alloc _
theorem dkNew_at (w : World) (room : Int) :
 Calls Tryz.prog 13 #[.int .i64 room] w fun e w' => e = .returned (ptrV (w.heap.size + 1)) ∧ DiskAt w' (fun x => w.heap.size ≤ x ∧ x < w.heap.size + 2) (w.heap.size + 1) (diskNew room) ∧ Keeps [] w w' := by
 refine (dkNew_any w room).mono ?_
 rintro e w' ⟨rfl, h1, h2, h3⟩
 exact ⟨rfl, ⟨w.heap.size, [], rfl, by simp [diskW], fun x hx => by simp [diskW] at hx; omega, h1, h2, fun p hp => by cases hp⟩, h3⟩
theorem perm_insA {α : Type} (x : Nm × α) : ∀ l : List (Nm × α), (insA x l).Perm (x :: l)
 | [] => List.Perm.refl _
 | y :: r => by
   unfold insA
   split
   ·exact List.Perm.refl _
   ·exact (List.Perm.cons y (perm_insA x r)).trans (List.Perm.swap x y r)
theorem diskW_put {b bm : Nat} {L : List (Nm × (Nat × FileD))} {name : Nm} {fb : Nat} {f : FileD} (h : (diskW b bm L).Nodup) (hfb : fb ∉ diskW b bm L) : (diskW b bm (putA L name (fb, f))).Nodup ∧ ∀ x ∈ diskW b bm (putA L name (fb, f)), x ∈ diskW b bm L ∨ x = fb := by
 have hp : (diskW b bm (putA L name (fb, f))).Perm (b :: bm :: fb :: (delA L name).map (·.2.1)) := by
  unfold diskW putA
  exact List.Perm.cons b (List.Perm.cons bm ((perm_insA (name, (fb, f)) (delA L name)).map _))
 have hs : ((delA L name).map (·.2.1)).Sublist (L.map (·.2.1)) := by
  unfold delA
  exact List.Sublist.map _ List.filter_sublist
 refine ⟨hp.nodup_iff.2 ?_, fun x hx => ?_⟩
 ·have h' : (b :: bm :: (delA L name).map (·.2.1)).Nodup := List.Nodup.sublist (List.Sublist.cons_cons b (List.Sublist.cons_cons bm hs)) h
  have hf : ∀ x ∈ (b :: bm :: (delA L name).map (·.2.1)), x ≠ fb := fun x hx e => hfb (by
   subst e
   exact (List.Sublist.cons_cons b (List.Sublist.cons_cons bm hs)).subset hx)
  have hp2 : (b :: bm :: fb :: (delA L name).map (·.2.1)).Perm (fb :: b :: bm :: (delA L name).map (·.2.1)) :=
   (List.Perm.cons b (List.Perm.swap fb bm _)).trans (List.Perm.swap fb b _)
  exact hp2.nodup_iff.2 (List.nodup_cons.2 ⟨fun hm => hf _ hm rfl, h'⟩)
 ·have := hp.mem_iff.1 hx
  simp only [List.mem_cons] at this
  unfold diskW
  simp only [List.mem_cons]
  rcases this with h1 | h1 | h1 | h1
  ·exact .inl (.inl h1)
  ·exact .inl (.inr (.inl h1))
  ·exact .inr h1
  ·exact .inl (.inr (.inr (hs.subset h1)))
theorem DiskAt.file {w : World} {F : Nat → Prop} {b bm : Nat} {L : List (Nm × (Nat × FileD))} {P : Nat → Prop} (h6 : ∀ p ∈ L, FileAt w P p.2.1 p.2.2) : ∀ x ∈ L.map (·.2.1), x < w.heap.size := fun x hx => by
 obtain ⟨p, hp, rfl⟩ := List.mem_map.1 hx
 exact (h6 p hp).lt
theorem DiskAt.put {w w' : World} {F : Nat → Prop} {b bm : Nat} {L : List (Nm × (Nat × FileD))} {d : DiskD} {name : Nm} {fb n : Nat} (h1 : d.files = mapA (·.2) L) (h2 : (diskW b bm L).Nodup) (h3 : ∀ x ∈ diskW b bm L, F x)
 (h4 : w.heap[b]? = some (.cells (diskRow d (.map (some bm))) 89 (0, 0))) (hbm : bm < w.heap.size)
 (h6 : ∀ p ∈ L, FileAt w (fun c => F c ∧ c ∉ diskW b bm L) p.2.1 p.2.2)
 (hfb : w.heap.size ≤ fb) (hf : w'.heap[fb]? = some (.cells #[.slice none 0 0, .int .i64 0] 246 (0, 0)))
 (hown : w'.ownsMap Tryz.prog 9 heldR bm n ((fmV (mapA (fun p => ptrV p.1) L)).put (.string name) (.held (ptrV fb)))) (k : Keeps [bm] w w') :
 DiskAt w' (fun x => (F x ∧ x < w.heap.size) ∨ x = fb) b { d with files := putA d.files name ⟨[], 0⟩ } := by
 have hlt : ∀ x ∈ diskW b bm L, x < w.heap.size := fun x hx => by
  unfold diskW at hx
  simp only [List.mem_cons] at hx
  rcases hx with rfl | rfl | hx
  ·exact (Array.getElem?_eq_some_iff.1 h4).1
  ·exact hbm
  ·exact DiskAt.file (F := F) (b := b) (bm := bm) h6 x hx
 have hn : fb ∉ diskW b bm L := fun hm => by have := hlt _ hm; omega
 obtain ⟨g1, g2⟩ := diskW_put (name := name) (f := ⟨[], 0⟩) h2 hn
 have hbb : b ≠ bm := by unfold diskW at h2; simp at h2; exact h2.1.1
 rw [fm_put] at hown
 have e1 : putA (mapA (fun p => ptrV p.1) L) name (ptrV fb) = mapA (fun p => ptrV p.1) (putA L name (fb, (⟨[], 0⟩ : FileD))) := (putA_map (fun p : Nat × FileD => ptrV p.1) name (fb, (⟨[], 0⟩ : FileD)) L).symm
 rw [e1] at hown
 refine ⟨bm, putA L name (fb, ⟨[], 0⟩), by rw [putA_map, ← h1], g1, fun x hx => ?_, (k.block b (Array.getElem?_eq_some_iff.1 h4).1 (by simpa using hbb)).trans h4, ?_, fun p hp => ?_⟩
 ·rcases g2 x hx with h | h
  ·exact .inl ⟨h3 x h, hlt x h⟩
  ·exact .inr h
 ·have := ownsFm_len hown
  rwa [show (mapA (fun p : Nat × FileD => ptrV p.1) (putA L name (fb, ⟨[], 0⟩))).length = (putA L name (fb, (⟨[], 0⟩ : FileD))).length by simp [mapA]] at this
 ·rcases mem_putA.1 hp with rfl | ⟨hp, hne⟩
  ·exact ⟨none, 0, hf, BytesAt.nil _ _ _ _⟩
  ·have hpn : p.2.1 ≠ bm := fun e => by
    unfold diskW at h2
    rw [List.nodup_cons, List.nodup_cons] at h2
    exact h2.2.1 (by rw [← e]; exact List.mem_map.2 ⟨p, hp, rfl⟩)
   have hk := ((h6 p hp).mono (P' := fun c => (F c ∧ c ∉ diskW b bm L) ∧ c < w.heap.size) (fun c hc h => ⟨h, hc⟩)).keep k (by simpa using hpn) (fun c hc hm => by simp at hm; exact hc.1.2 (by rw [hm]; simp [diskW]))
   exact hk.mono (fun c _ hc => ⟨.inl ⟨hc.1.1, hc.2⟩, fun hm => by
    rcases g2 c hm with h | h
    ·exact hc.1.2 h
    ·omega⟩)
theorem turned_keeps {w w' : World} {b : Nat} (h : w.mapTurned w' b) : Keeps [b] w w' := Keeps.ofGrown h.grown (fun k hk => by simp at hk; simp [hk])
theorem dkCreate_any (w : World) (F : Nat → Prop) (b n : Nat) (d : DiskD) (name : Nm) (h : DiskAt w F b d) (hk : DiskOk n d) (hn : n ≤ 1000000) (hnm : name.length ≤ 1000) (hfl : d.files.length ≤ 1000000) :
 Calls Tryz.prog 99 #[ptrV b, .string (str name)] w fun e w' => e = .returned (.int .i64 (dcreate d name).2) ∧ DiskPost w F b (dcreate d name).1 w' := by
 obtain ⟨hc0, hc1, ha0, ha1⟩ := hk
 have hcall := dkCall_any w b d
 obtain ⟨bm, L, h1, h2, h3, h4, h5, h6⟩ := h
 have hcall := hcall (.map (some bm)) h4 ⟨hc0, by omega⟩ ⟨ha0, ha1⟩
 have HC := hid hcall
 have hat : DiskAt w F b d := ⟨bm, L, h1, h2, h3, h4, h5, h6⟩
 have HAT := hid hat
 have hbb : b ≠ bm := by unfold diskW at h2; simp at h2; exact h2.1.1
 have HBB := hid hbb
 have hFb := h3 b (by simp [diskW])
 have HFB := hid hFb
 have HNM := hid hnm
 have HFL := hid hfl
 have H4 := hid h4
 have HD := hid (And.intro h1 (And.intro h2 (And.intro h3 (And.intro h5 h6))))
 clear hcall hat hbb hFb hnm h1 h2 h3 h4 h5 h6 hfl hc0 hc1 ha0 ha1
 unfold ptrV
 obtain ⟨r, hr⟩ : ∃ r, (dcall d).2 = r := ⟨_, rfl⟩
 by_cases hr0 : r = 0
 ·have HR := hid hr
  have HR0 := hid hr0
  go_enter Tryz.func99, Tryz.ntmps99
  go_wp2_with fail
  refine HC.out.mono ?_
  rintro e w1 ⟨rfl, hb1, hk1⟩
  rw [hr, hr0]
  have k1 := hid hk1
  have HB1 := hid hb1
  clear hr hr0 hk1 hb1
  go_wp2_with fail
  have hna := dkNamed_any (w1.alloc (.cells #[.string (str name)] 9)) w1.heap.size [str name] (by simp) (fun i s hs => by
   cases i with
   | zero =>
     simp at hs
     subst hs
     exact cell_of_block (heap_alloc_new w1 _) 0
   | succ i => simp at hs)
  refine hna.mono ?_
  rintro e w2 ⟨rfl, hk⟩
  have hk2 : Keeps [] w1 w2 := Keeps.trans (F := []) (G := []) (by exact Keeps.K) hk (fun _ _ h => h)
  have K2 := hid hk2
  rw [show ([str name].all namedS) = fnamedP name by simp [named_str]]
  have hbl : b ∉ ([] : List Nat) := by simp
  have hb2 : w2.heap[b]? = some (.cells (diskRow (dcall d).1 (.map (some bm))) 89 (0, 0)) := (hk2.block b (Array.getElem?_eq_some_iff.1 HB1.out).1 hbl).trans HB1.out
  have HB2 := hid hb2
  have x1 : w2.cell? ⟨b, 1, none⟩ = some (.map (some bm)) := by unfold diskRow at hb2; exact cell_of_block hb2 1
  have hm2 := ownsFm_keep (ownsFm_keep HD.out.2.2.2.1 k1.out (by simpa using fun e => HBB.out e.symm)) hk2 (by simp)
  have HM2 := hid hm2
  have hrun := fm_look hm2 name HNM.out
  have hlen := hm2.len Tryz.underlying87
  clear hk hk2 hna hb2 hm2 hbl
  rcases hnp : fnamedP name with _ | _
  ·have HO : Hid (dcreate d name = ((dcall d).1, 1)) := by
    show _ = _
    unfold dcreate
    rw [if_neg (by rw [HR.out, HR0.out]; simp), if_pos hnp]
   clear hnp
   go_wp2_with fail
   go_ret
   exact ⟨by rw [HO.out]; rfl, by rw [HO.out]; exact ⟨F, (HAT.out.row k1.out (dcall_files d).1 H4.out HB1.out).k K2.out, fun _ h => .inl h, KeepsP.of (k1.out.trans K2.out (fun _ _ h => by cases h)) (by simpa using HFB.out)⟩⟩
  ·have HNP := hid hnp
   have HLEN : Hid (d.files.length = L.length) := by show _ = _; rw [HD.out.1]; simp [mapA]
   have HGF : Hid (getA d.files name = (getA L name).map (·.2)) := by show _ = _; rw [HD.out.1, getA_map]
   rw [fm_size, show (mapA (fun p : Nat × FileD => ptrV p.1) L).length = L.length by simp [mapA]] at hlen
   have HBM := hid HM2.out.lt
   have HFILES : Hid (∀ p ∈ L, FileAt w2 (fun c => F c ∧ c ∉ diskW b bm L) p.2.1 p.2.2) := fun p hp => by
    have hpb : p.2.1 ≠ b := fun e => by
     have h2 := HD.out.2.1
     unfold diskW at h2
     rw [List.nodup_cons] at h2
     exact h2.1 (by rw [← e]; exact List.mem_cons_of_mem _ (List.mem_map.2 ⟨p, hp, rfl⟩))
    exact ((HD.out.2.2.2.2 p hp).keep k1.out (by simpa using hpb) (fun c hc hm => by simp at hm; exact hc.2 (by rw [hm]; simp [diskW]))).keep K2.out (by simp) (fun _ _ => by simp)
   have HEND : Hid (∀ w3 : World, w3.ownsMap Tryz.prog 9 heldR bm (L.length + 1) ((fmV (mapA (fun p => ptrV p.1) L)).put (.string name) (.held (ptrV w2.heap.size))) → World.mapTurned (w2.alloc (.cells #[.slice none 0 0, .int .i64 0] 246)) w3 bm → DiskPost w F b { (dcall d).1 with files := putA d.files name ⟨[], 0⟩ } w3) := fun w3 ho ht => by
    have kt := turned_keeps ht
    have k23 : Keeps [bm] w2 w3 := Keeps.trans (F := [bm]) (G := [bm]) (by exact Keeps.K) kt (fun _ _ h => h)
    have hfile : w3.heap[w2.heap.size]? = some (.cells #[.slice none 0 0, .int .i64 0] 246 (0, 0)) := by
     rw [kt.block w2.heap.size (by simp) (by have := HBM.out; simp; omega)]
     exact heap_alloc_new w2 _
    have hres := DiskAt.put (F := F) (by rw [(dcall_files d).1]; exact HD.out.1) HD.out.2.1 HD.out.2.2.1 HB2.out HBM.out HFILES.out (Nat.le_refl _) hfile ho k23
    rw [(dcall_files d).1] at hres
    refine ⟨_, hres, fun x hx => ?_, KeepsP.of ((k1.out.trans K2.out (fun _ _ h => by cases h)).mono (G := [b, bm]) (fun x _ hm => by simp at hm; simp [hm]) |>.trans k23 (fun x _ hm => by simp at hm; simp [hm])) (fun x hx => by
     simp at hx
     exact HD.out.2.2.1 x (by simp [diskW]; rcases hx with h | h <;> simp [h]))⟩
    rcases hx with hx | rfl
    ·exact .inl hx.1
    ·exact .inr (Nat.le_trans k1.out.size K2.out.size)
   clear hnp
   rcases hga : getA L name with _ | ⟨fb, f⟩
   ·rw [hga] at hrun
    simp only [ptrOf, Option.map_none] at hrun
    have HGA := hid hga
    clear hga
    by_cases h64 : 64 ≤ L.length
    ·have c64 : (64 : Int) ≤ (L.length : Int) := by omega
     have HO : Hid (dcreate d name = ((dcall d).1, 2)) := by
      show _ = _
      unfold dcreate
      rw [if_neg (by rw [HR.out, HR0.out]; simp), if_neg (by rw [HNP.out]; simp), if_pos ⟨by rw [HGF.out, HGA.out]; rfl, by rw [HLEN.out]; exact h64⟩]
     clear h64
     go_wp2_with fail
     go_ret
     exact ⟨by rw [HO.out]; rfl, by rw [HO.out]; exact ⟨F, (HAT.out.row k1.out (dcall_files d).1 H4.out HB1.out).k K2.out, fun _ h => .inl h, KeepsP.of (k1.out.trans K2.out (fun _ _ h => by cases h)) (by simpa using HFB.out)⟩⟩
    ·have c64 : decide ((64 : Int) ≤ (L.length : Int)) = false := decide_eq_false (by omega)
     have HO : Hid (dcreate d name = ({ (dcall d).1 with files := putA d.files name ⟨[], 0⟩ }, 0)) := by
      show _ = _
      unfold dcreate
      rw [if_neg (by rw [HR.out, HR0.out]; simp), if_neg (by rw [HNP.out]; simp), if_neg (by rw [HLEN.out]; intro h; exact h64 h.2)]
     clear h64
     go_wp2_with (at_mapUpdate; refine wpList_mapUpdate_in _ rfl _ _ _ _ rfl _ _ nameKeyed Tryz.underlying87 heldR bm L.length _ rfl (HM2.out.alloc _) (by have := HFL.out; have := HLEN.out; unfold maxLen; omega) _ _ _ rfl rfl (nameKey name HNM.out) _ _ rfl ?_; intro w3 ho ht)
     have HE := hid (HEND.out w3 ho ht)
     clear ho ht
     go_wp2_with fail
     go_ret
     exact ⟨by rw [HO.out]; rfl, by rw [HO.out]; exact HE.out⟩
   ·rw [hga] at hrun
    simp only [ptrOf, ptrV, Option.map_some] at hrun
    have HGA := hid hga
    clear hga
    have HO : Hid (dcreate d name = ({ (dcall d).1 with files := putA d.files name ⟨[], 0⟩ }, 0)) := by
     show _ = _
     unfold dcreate
     rw [if_neg (by rw [HR.out, HR0.out]; simp), if_neg (by rw [HNP.out]; simp), if_neg (by rw [HGF.out, HGA.out]; simp)]
    go_wp2_with (at_mapUpdate; refine wpList_mapUpdate_in _ rfl _ _ _ _ rfl _ _ nameKeyed Tryz.underlying87 heldR bm L.length _ rfl (HM2.out.alloc _) (by have := HFL.out; have := HLEN.out; unfold maxLen; omega) _ _ _ rfl rfl (nameKey name HNM.out) _ _ rfl ?_; intro w3 ho ht)
    have HE := hid (HEND.out w3 ho ht)
    clear ho ht
    go_wp2_with fail
    go_ret
    exact ⟨by rw [HO.out]; rfl, by rw [HO.out]; exact HE.out⟩
 ·have q : (r != 0) = true := by simpa using hr0
  have HO : Hid (dcreate d name = dcall d) := by
   show _ = _
   exact if_pos (by rw [hr]; exact hr0)
  have HR := hid hr
  clear hr0 hr
  go_enter Tryz.func99, Tryz.ntmps99
  go_wp2_with fail
  refine HC.out.mono ?_
  rintro e w1 ⟨rfl, hb1, hk1⟩
  have hp : DiskPost w F b (dcall d).1 w1 := by
   exact ⟨F, HAT.out.row hk1 (dcall_files d).1 H4.out hb1, fun _ h => .inl h, KeepsP.of hk1 (by simpa using HFB.out)⟩
  have HP := hid hp
  rw [HR.out]
  clear hb1 hk1 hp
  go_wp2_with fail
  go_ret
  exact ⟨by rw [HO.out, HR.out]; rfl, by rw [HO.out]; exact HP.out⟩
structure DiskOk2 (n : Nat) (d : DiskD) : Prop where
 c0 : 0 ≤ d.calls
 c1 : d.calls ≤ (n : Int)
 a0 : 0 ≤ d.after
 a1 : d.after ≤ 1099511627776
 used : (usedD d : Int) ≤ d.room
 room : d.room ≤ 16777216
 files : d.files.length ≤ 64
theorem fm_unique {w : World} {b n : Nat} {l : List (Nm × Value)} (h : w.ownsMap Tryz.prog 9 heldR b n (fmV l)) : (l.map (·.1)).Nodup := by
 have h1 := fm_rising h
 have h2 : l.Pairwise (fun p q => p.1 ≠ q.1) := h1.imp (fun {a b} hab e => by
  have : (Lit.string a.1).before (Lit.string b.1) = true := hab
  rw [e, Go.WideShapes.before_irrefl] at this
  cases this)
 exact List.pairwise_map.2 h2
theorem fm_uniqueL {w : World} {b n : Nat} {L : List (Nm × (Nat × FileD))} (h : w.ownsMap Tryz.prog 9 heldR b n (fmV (mapA (fun p => ptrV p.1) L))) : (L.map (·.1)).Nodup := by
 have := fm_unique h
 simpa [mapA, Function.comp_def] using this
theorem nodup_one {α : Type} {name : Nm} {x : α} : ∀ {L : List (Nm × α)}, (L.map (·.1)).Nodup → getA L name = some x → ∀ p ∈ L, p.1 = name → p.2 = x
 | [], _, _, p, hp, _ => by cases hp
 | (m, a) :: r, hn, hg, p, hp, he => by
   rw [List.map_cons, List.nodup_cons] at hn
   unfold getA at hg
   rcases List.mem_cons.1 hp with rfl | hp
   ·simp at he
    subst he
    simp at hg
    exact hg
   ·have hne : m ≠ name := fun e => hn.1 (by rw [e, ← he]; exact List.mem_map.2 ⟨p, hp, rfl⟩)
    rw [if_neg (by simpa using hne)] at hg
    exact nodup_one hn.2 hg p hp he
theorem updA_blocks {L : List (Nm × (Nat × FileD))} {name : Nm} {fb : Nat} {f f' : FileD} (hn : (L.map (·.1)).Nodup) (hg : getA L name = some (fb, f)) : (updA L name (fb, f')).map (·.2.1) = L.map (·.2.1) := by
 unfold updA
 rw [List.map_map]
 refine List.map_congr_left fun p hp => ?_
 simp only [Function.comp]
 split
 ·rename_i he
  rw [nodup_one hn hg p hp (by simpa using he)]
 ·rfl
theorem updA_ptrs {L : List (Nm × (Nat × FileD))} {name : Nm} {fb : Nat} {f f' : FileD} (hn : (L.map (·.1)).Nodup) (hg : getA L name = some (fb, f)) : mapA (fun p => ptrV p.1) (updA L name (fb, f')) = mapA (fun p => ptrV p.1) L := by
 unfold updA mapA
 rw [List.map_map]
 refine List.map_congr_left fun p hp => ?_
 simp only [Function.comp]
 split
 ·rename_i he
  have := nodup_one hn hg p hp (by simpa using he)
  rw [this, show p.1 = name by simpa using he]
 ·rfl
theorem DiskAt.upd {w w' : World} {F F' : Nat → Prop} {b bm : Nat} {L : List (Nm × (Nat × FileD))} {d : DiskD} {name : Nm} {fb : Nat} {f f' : FileD} (h1 : d.files = mapA (·.2) L) (h2 : (diskW b bm L).Nodup) (h3 : ∀ x ∈ diskW b bm L, F x)
 (h4 : w.heap[b]? = some (.cells (diskRow d (.map (some bm))) 89 (0, 0))) (h5 : w.ownsMap Tryz.prog 9 heldR bm L.length (fmV (mapA (fun p => ptrV p.1) L)))
 (h6 : ∀ p ∈ L, FileAt w (fun c => F c ∧ c ∉ diskW b bm L) p.2.1 p.2.2) (hg : getA L name = some (fb, f)) (hF : ∀ x, x < w.heap.size → F x → F' x)
 (hf : FileAt w' (fun c => F' c ∧ c ∉ diskW b bm L) fb f') (k : Keeps [fb] w w') : DiskAt w' F' b { d with files := updA d.files name f' } := by
 have hn := fm_uniqueL h5
 have hmem := getA_mem hg
 have hW : diskW b bm (updA L name (fb, f')) = diskW b bm L := by
  unfold diskW
  rw [updA_blocks hn hg]
 have hlen : (updA L name (fb, f')).length = L.length := by simp [updA]
 have h2' := h2
 unfold diskW at h2'
 rw [List.nodup_cons, List.nodup_cons] at h2'
 have hfm : fb ∈ L.map (·.2.1) := List.mem_map.2 ⟨_, hmem, rfl⟩
 have hb : b ≠ fb := fun e => h2'.1 (by rw [e]; exact List.mem_cons_of_mem _ hfm)
 have hbm : bm ≠ fb := fun e => h2'.2.1 (by rw [e]; exact hfm)
 have hlt : ∀ x ∈ diskW b bm L, x < w.heap.size := fun x hx => by
  unfold diskW at hx
  simp only [List.mem_cons] at hx
  rcases hx with rfl | rfl | hx
  ·exact (Array.getElem?_eq_some_iff.1 h4).1
  ·exact h5.lt
  ·exact DiskAt.file (F := F) (b := b) (bm := bm) h6 x hx
 refine ⟨bm, updA L name (fb, f'), by rw [updA_map, ← h1], by rw [hW]; exact h2, fun x hx => by rw [hW] at hx; exact hF x (hlt x hx) (h3 x hx), (k.block b (Array.getElem?_eq_some_iff.1 h4).1 (by simpa using hb)).trans h4, ?_, fun p hp => ?_⟩
 ·rw [updA_ptrs hn hg, hlen]
  exact ownsFm_keep h5 k (by simpa using hbm)
 ·rw [hW]
  unfold updA at hp
  obtain ⟨q, hq, rfl⟩ := List.mem_map.1 hp
  by_cases he : q.1 = name
  ·rw [if_pos (by simpa using he)]
   exact hf
  ·rw [if_neg (by simpa using he)]
   have hqb : q.2.1 ≠ fb := fun e => by
    obtain ⟨i, hi, rfl⟩ := List.mem_iff_getElem.1 hq
    obtain ⟨j, hj, hjj⟩ := List.mem_iff_getElem.1 hmem
    have h3' := h2'.2.2
    have e1 : (L.map (·.2.1))[i]'(by simpa using hi) = (L.map (·.2.1))[j]'(by simpa using hj) := by simp [hjj, e]
    have := (List.getElem_inj h3').1 e1
    subst this
    exact he (by rw [hjj])
   have hfi : fb ∈ diskW b bm L := by unfold diskW; exact List.mem_cons_of_mem _ (List.mem_cons_of_mem _ hfm)
   exact (((h6 q hq).mono (P' := fun c => (F c ∧ c ∉ diskW b bm L) ∧ c < w.heap.size) (fun c hc h => ⟨h, hc⟩)).keep k (by simpa using hqb) (fun c hc hm => by simp at hm; exact hc.1.2 (by rw [hm]; exact hfi))).mono (fun c _ hc => ⟨hF c hc.2 hc.1.1, hc.1.2⟩)
theorem dkCall_at (w : World) (F : Nat → Prop) (b : Nat) (d : DiskD) (h : DiskAt w F b d) (hc : 0 ≤ d.calls ∧ d.calls ≤ 1099511627776) (ha : 0 ≤ d.after ∧ d.after ≤ 1099511627776) :
 Calls Tryz.prog 154 #[ptrV b] w fun e w' => e = .returned (.int .i64 (dcall d).2) ∧ DiskAt w' F b (dcall d).1 ∧ Keeps [b] w w' ∧ F b := by
 have h' := h
 obtain ⟨bm, L, h1, h2, h3, h4, h5, h6⟩ := h
 refine (dkCall_any w b d _ h4 hc ha).mono ?_
 rintro e w' ⟨rfl, hb, hk⟩
 exact ⟨rfl, h'.row hk (dcall_files d).1 h4 hb, hk, h3 b (by simp [diskW])⟩
theorem DiskPost.of {w w1 w' : World} {F : Nat → Prop} {b : Nat} {d : DiskD} (k1 : Keeps [b] w w1) (hF : F b) (h : DiskPost w1 F b d w') : DiskPost w F b d w' := by
 obtain ⟨F', h1, h2, h3⟩ := h
 exact ⟨F', h1, fun x hx => (h2 x hx).imp id (fun h => Nat.le_trans k1.size h), (KeepsP.of k1 (by simpa using hF)).trans h3 (fun _ _ h => h)⟩
theorem DiskPost.same {w w' : World} {F : Nat → Prop} {b : Nat} {d : DiskD} (h : DiskAt w F b d) (k : Keeps [] w w') : DiskPost w F b d w' := ⟨F, h.k k, fun _ h => .inl h, KeepsP.of0 k⟩
theorem dcall_ok {n : Nat} {d : DiskD} (h : DiskOk2 n d) : DiskOk2 (n + 1) (dcall d).1 := by
 obtain ⟨c0, c1, a0, a1, u, r, f⟩ := h
 unfold dcall
 dsimp only
 split
 ·exact ⟨by dsimp only; omega, by dsimp only; omega, a0, a1, u, r, f⟩
 ·split
  ·exact ⟨by dsimp only; omega, by dsimp only; omega, a0, a1, u, r, f⟩
  ·split
   ·exact ⟨by dsimp only; omega, by dsimp only; omega, by dsimp only; omega, by dsimp only; omega, u, r, f⟩
   ·exact ⟨by dsimp only; omega, by dsimp only; omega, a0, a1, u, r, f⟩
def DiskEnds (w : World) (F : Nat → Prop) (b : Nat) (r : DiskD × Int) (e : Ending) (w' : World) : Prop := e = .returned (.int .i64 r.2) ∧ DiskPost w F b r.1 w'
theorem DiskEnds.of {w w1 w' : World} {F : Nat → Prop} {b : Nat} {r : DiskD × Int} {e : Ending} (k1 : Keeps [b] w w1) (hF : F b) (h : DiskEnds w1 F b r e w') : DiskEnds w F b r e w' := ⟨h.1, h.2.of k1 hF⟩
end Go.Proofs.YtgjiahilbmeaeaaGreatDoor