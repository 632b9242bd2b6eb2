/- Joined of NoA, NoB, NoC, NoD, NoH, NtA, NtB. -/
import Derived.Test.YtgjiahilbmeaeaaGreatDoorR11
import Derived.Test.YtgjiahilbmeaeaaGreatDoorR05
import Derived.Test.YtgjiahilbmeaeaaGreatDoorR13
import Derived.Test.YtgjiahilbmeaeaaGreatDoorQ06
import Derived.Test.YtgjiahilbmeaeaaGreatDoorQ01
import Derived.Test.YtgjiahilbmeaeaaGreatDoorScF
import Derived.Test.YtgjiahilbmeaeaaGreatDoorQ03
set_option maxRecDepth 100000
set_option maxHeartbeats 8000000
set_option linter.unusedSimpArgs false
set_option linter.unusedVariables false
/- A node in memory. -/
namespace Go.Proofs.YtgjiahilbmeaeaaGreatDoor
open Go Go.RowKit
structure NoteD where
 frm : Int
 c : Int
 term : Int
structure ApplD where
 index : Int
 entry : Ent
 reply : ReplyD
structure NodeD where
 conf : ConfD
 id : Int
 disk : DiskD
 wn : Nat
 wbase : Int
 wlast : Int
 core : CoreD
 ap : Int
 notes : List (Int × NoteD)
 fresh : List ApplD
 down : Bool
structure NoP where
 db : Nat
 sb : Nat
 wb : Nat
 cb : Nat
 mb : Nat
 tb : Nat
 B : Nat
 B0 : Nat
 col : Nat → Nat
def noteV (x : NoteD) : Value := .agg #[.int .i64 x.frm, .int .i64 x.c, .int .i64 x.term]
def imV (l : List (Int × Value)) : DataW Value := .map (l.map fun p => (.int .i64 p.1, .held p.2))
def NotesAt (w : World) (tb : Nat) (l : List (Int × NoteD)) : Prop := w.ownsMap Tryz.prog 3 heldR tb l.length (imV (l.map fun p => (p.1, noteV p.2)))
def applL : Lay ApplD where
 size := 9
 pos := by decide
 at_ w P cs x := ∃ v, cs = [.int .i64 x.index, .int .i64 x.entry.term, .bool x.entry.cmd, v, .int .i64 x.reply.err, .int .i64 x.reply.n, .int .i64 x.reply.value.kind, .int .i64 x.reply.value.n, .string x.reply.value.s] ∧ BytesAt w P v x.entry.data
 len := fun ⟨v, e, _⟩ => by rw [e]; rfl
 one := fun ⟨v, e, h⟩ u hu => by
  rw [e] at hu
  obtain ⟨a, c, rfl⟩ := h.form
  simp at hu
  rcases hu with rfl | rfl | rfl | rfl | rfl | rfl | rfl | rfl | rfl <;> rfl
 keep := fun ⟨v, e, h⟩ k hP => ⟨v, e, h.keep k hP⟩
 mono := fun ⟨v, e, h⟩ hP => ⟨v, e, h.mono hP⟩
def noRow (p : NoP) (nd : NodeD) (fv : Value) : Array Value :=
 #[ptrV p.db, .int .i64 nd.conf.nodes, .int .i64 nd.conf.clients, .int .i64 nd.conf.heart, .int .i64 nd.conf.lo, .int .i64 nd.conf.range, .int .i64 nd.conf.sessions, .int .i64 nd.conf.snap, .int .i64 nd.conf.room, .int .i64 nd.conf.retry, ptrV p.sb, .int .i64 nd.id, ptrV p.wb, ptrV p.cb, ptrV p.mb, .map (some p.tb), fv, .bool nd.down]
structure NodeIn (w : World) (p : NoP) (nb : Nat) (nd : NodeD) (lv sv fv : Value) : Prop where
 blk : w.heap[nb]? = some (.cells (noRow p nd fv) 55 (0, 0))
 disk : DiskAt w (fun b => p.col b = 4) p.db nd.disk
 wal : WalBlk w p.wb p.db (nd.wn : Int) nd.wbase nd.wlast
 core : CoreIn w p.B (fun b => p.col b = 5) p.cb nd.core lv sv
 mach : MachAt w p.mb p.sb nd.conf.sessions nd.ap
 notes : NotesAt w p.tb nd.notes
 fresh : OwnAt applL 199 w p.B (fun b => p.col b = 7 ∧ b ∉ ownB fv) fv nd.fresh
 freshB : ∀ b ∈ ownB fv, p.col b = 7
 cn : p.col nb = 1
 cw : p.col p.wb = 2
 ct : p.col p.tb = 3
 cm : p.col p.mb = 6
 lt : ∀ b, p.col b ≠ 0 → p.B0 ≤ b ∧ b < w.heap.size
 conf : nd.core.conf = nd.conf
 same : nd.core.id = nd.id
 apB : 0 ≤ nd.ap ∧ nd.ap ≤ 2199023255552
def NoP.wr (p : NoP) (lv : Value) (b : Nat) : Prop := p.col b = 1 ∨ p.col b = 2 ∨ p.col b = 3 ∨ p.col b = 4 ∨ p.col b = 6 ∨ p.col b = 7 ∨ b = p.cb ∨ b ∈ ownB lv
noncomputable def recol (col : Nat → Nat) (s : Nat) (X : Nat → Prop) (k : Nat) (b : Nat) : Nat := open Classical in if b < s then col b else if X b then k else 0
theorem recol_old {col : Nat → Nat} {s k b : Nat} {X : Nat → Prop} (h : b < s) : recol col s X k b = col b := by
 unfold recol
 rw [if_pos h]
theorem recol_new {col : Nat → Nat} {s k b : Nat} {X : Nat → Prop} (h : s ≤ b) (hx : X b) : recol col s X k b = k := by
 unfold recol
 rw [if_neg (by omega), if_pos hx]
theorem recol_cases {col : Nat → Nat} {s k b : Nat} {X : Nat → Prop} : (b < s ∧ recol col s X k b = col b) ∨ (s ≤ b ∧ X b ∧ recol col s X k b = k) ∨ (s ≤ b ∧ ¬ X b ∧ recol col s X k b = 0) := by
 unfold recol
 by_cases h : b < s
 ·exact .inl ⟨h, if_pos h⟩
 ·by_cases hx : X b
  ·exact .inr (.inl ⟨by omega, hx, by rw [if_neg h, if_pos hx]⟩)
  ·exact .inr (.inr ⟨by omega, hx, by rw [if_neg h, if_neg hx]⟩)
theorem DiskAt.mono {w : World} {F F' : Nat → Prop} {b : Nat} {d : DiskD} (h : DiskAt w F b d) (hF : ∀ x, x < w.heap.size → F x → F' x) : DiskAt w F' b d := by
 obtain ⟨bm, L, h1, h2, h3, h4, h5, h6⟩ := h
 have hl := DiskAt.lt h4 h5 h6
 exact ⟨bm, L, h1, h2, fun x hx => hF x (hl x hx) (h3 x hx), h4, h5, fun p hp => (h6 p hp).mono fun c hc hb => ⟨hF c hc hb.1, hb.2⟩⟩
theorem NotesAt.keep {w w' : World} {F : List Nat} {tb : Nat} {l : List (Int × NoteD)} (h : NotesAt w tb l) (k : Keeps F w w') (hb : tb ∉ F) : NotesAt w' tb l := ownsFm_keep h k hb
theorem MachAt.keep {w w' : World} {F : List Nat} {mb sb : Nat} {ses ap : Int} (h : MachAt w mb sb ses ap) (k : Keeps F w w') (hb : mb ∉ F) : MachAt w' mb sb ses ap := by
 obtain ⟨e, t, h⟩ := h
 exact ⟨e, t, (k.block mb (Array.getElem?_eq_some_iff.1 h).1 hb).trans h⟩
section
variable {w w' : World} {p : NoP} {nb : Nat} {nd : NodeD} {lv sv fv : Value} {G : Nat → Prop} {col' : Nat → Nat}
theorem NodeIn.blkK (h : NodeIn w p nb nd lv sv fv) (k : KeepsP G w w') (hG : ∀ b, G b → p.col b ≠ 1) : w'.heap[nb]? = some (.cells (noRow p nd fv) 55 (0, 0)) := by
 obtain ⟨Gl, k, hg⟩ := k
 exact (k.block nb (Array.getElem?_eq_some_iff.1 h.blk).1 (fun hm => hG nb (hg nb hm) h.cn)).trans h.blk
theorem NodeIn.diskK (h : NodeIn w p nb nd lv sv fv) (k : KeepsP G w w') (hc : ∀ b, p.col b ≠ 0 → col' b = p.col b) (hG : ∀ b, G b → p.col b ≠ 4) : DiskAt w' (fun b => col' b = 4) p.db nd.disk := by
 obtain ⟨Gl, k, hg⟩ := k
 exact (h.disk.keep k (fun x hx h4 => hG x (hg x hx) h4)).mono fun x _ h4 => by rw [hc x (by rw [h4]; decide)]; exact h4
theorem NodeIn.walK (h : NodeIn w p nb nd lv sv fv) (k : KeepsP G w w') (hG : ∀ b, G b → p.col b ≠ 2) : WalBlk w' p.wb p.db (nd.wn : Int) nd.wbase nd.wlast := by
 obtain ⟨Gl, k, hg⟩ := k
 exact (k.block p.wb (Array.getElem?_eq_some_iff.1 h.wal).1 (fun hm => hG _ (hg _ hm) h.cw)).trans h.wal
theorem NodeIn.coreK (h : NodeIn w p nb nd lv sv fv) (k : KeepsP G w w') (hc : ∀ b, p.col b ≠ 0 → col' b = p.col b) (hn : ∀ b, p.col b = 0 → col' b ≠ 5) (hG : ∀ b, G b → p.col b ≠ 5) : CoreIn w' p.B (fun b => col' b = 5) p.cb nd.core lv sv :=
 (h.core.keep k (fun b hb hg => hG b hg hb)).congr fun b => by
  by_cases h0 : p.col b = 0
  ·have := hn b h0
   rw [h0]
   constructor
   ·intro e; cases e
   ·intro e; exact absurd e this
  ·rw [hc b h0]
theorem NodeIn.machK (h : NodeIn w p nb nd lv sv fv) (k : KeepsP G w w') (hG : ∀ b, G b → p.col b ≠ 6) : MachAt w' p.mb p.sb nd.conf.sessions nd.ap := by
 obtain ⟨Gl, k, hg⟩ := k
 exact h.mach.keep k (fun hm => hG _ (hg _ hm) h.cm)
theorem NodeIn.notesK (h : NodeIn w p nb nd lv sv fv) (k : KeepsP G w w') (hG : ∀ b, G b → p.col b ≠ 3) : NotesAt w' p.tb nd.notes := by
 obtain ⟨Gl, k, hg⟩ := k
 exact h.notes.keep k (fun hm => hG _ (hg _ hm) h.ct)
theorem NodeIn.freshK (h : NodeIn w p nb nd lv sv fv) (k : KeepsP G w w') (hc : ∀ b, p.col b ≠ 0 → col' b = p.col b) (hG : ∀ b, G b → p.col b ≠ 7) : OwnAt applL 199 w' p.B (fun b => col' b = 7 ∧ b ∉ ownB fv) fv nd.fresh ∧ ∀ b ∈ ownB fv, col' b = 7 := by
 obtain ⟨Gl, k, hg⟩ := k
 exact ⟨(h.fresh.keep k (fun b hb hm => hG b (hg b hm) (h.freshB b hb)) (fun b hb hm => hG b (hg b hm) hb.1)).mono fun b _ hb => ⟨by rw [hc b (by rw [hb.1]; decide)]; exact hb.1, hb.2⟩, fun b hb => by rw [hc b (by rw [h.freshB b hb]; decide)]; exact h.freshB b hb⟩
theorem NodeIn.recolK (h : NodeIn w p nb nd lv sv fv) (X : Nat → Prop) (k : Nat) : ∀ b, p.col b ≠ 0 → recol p.col w.heap.size X k b = p.col b := fun b hb => recol_old (h.lt b hb).2
theorem NodeIn.recolN (h : NodeIn w p nb nd lv sv fv) (X : Nat → Prop) {k j : Nat} (hj : j ≠ k) (h0 : j ≠ 0) : ∀ b, p.col b = 0 → recol p.col w.heap.size X k b ≠ j := fun b hb e => by
 rcases @recol_cases p.col w.heap.size k b X with ⟨_, h⟩ | ⟨_, _, h⟩ | ⟨_, _, h⟩
 ·rw [h, hb] at e; exact h0 e.symm
 ·rw [h] at e; exact hj e.symm
 ·rw [h] at e; exact h0 e.symm
theorem NodeIn.keep (h : NodeIn w p nb nd lv sv fv) (k : KeepsP G w w') (hG : ∀ b, G b → p.col b = 0) : NodeIn w' p nb nd lv sv fv := by
 have hn : ∀ j, j ≠ 0 → ∀ b, G b → p.col b ≠ j := fun j hj b hb e => hj (by rw [← e]; exact hG b hb)
 have hf := h.freshK k (col' := p.col) (fun _ _ => rfl) (hn 7 (by decide))
 exact { blk := h.blkK k (hn 1 (by decide)), disk := h.diskK k (fun _ _ => rfl) (hn 4 (by decide)), wal := h.walK k (hn 2 (by decide)), core := h.coreK k (fun _ _ => rfl) (fun b hb e => by rw [hb] at e; cases e) (hn 5 (by decide)), mach := h.machK k (hn 6 (by decide)), notes := h.notesK k (hn 3 (by decide)), fresh := hf.1, freshB := hf.2,
         cn := h.cn, cw := h.cw, ct := h.ct, cm := h.cm, lt := fun b hb => ⟨(h.lt b hb).1, Nat.lt_of_lt_of_le (h.lt b hb).2 k.size⟩, conf := h.conf, same := h.same, apB := h.apB }
theorem NodeIn.k (h : NodeIn w p nb nd lv sv fv) (k : Keeps [] w w') : NodeIn w' p nb nd lv sv fv := h.keep (KeepsP.of0 (F := fun _ => False) k) (fun _ h => h.elim)
theorem NodeIn.coreStep {c' : CoreD} {lv' sv' : Value} (h : NodeIn w p nb nd lv sv fv) (hc : CoreIn w' p.B (grow (fun b => p.col b = 5) w w') p.cb c' lv' sv') (hk : Keeps (p.cb :: ownB lv) w w') (e1 : c'.conf = nd.conf) (e2 : c'.id = nd.id) :
 NodeIn w' { p with col := recol p.col w.heap.size (fun b => b < w'.heap.size) 5 } nb { nd with core := c' } lv' sv' fv := by
 have k : KeepsP (fun b => p.col b = 5) w w' := KeepsP.of hk (fun b hb => h.core.mem b hb)
 have hn : ∀ j, j ≠ 5 → ∀ b, p.col b = 5 → p.col b ≠ j := fun j hj b hb e => hj (by rw [← e]; exact hb)
 have hr := h.recolK (fun b => b < w'.heap.size) 5
 have hf := h.freshK k hr (hn 7 (by decide))
 exact { blk := h.blkK k (hn 1 (by decide)), disk := h.diskK k hr (hn 4 (by decide)), wal := h.walK k (hn 2 (by decide)), mach := h.machK k (hn 6 (by decide)), notes := h.notesK k (hn 3 (by decide)), fresh := hf.1, freshB := hf.2,
         cn := (hr nb (by rw [h.cn]; decide)).trans h.cn, cw := (hr _ (by rw [h.cw]; decide)).trans h.cw, ct := (hr _ (by rw [h.ct]; decide)).trans h.ct, cm := (hr _ (by rw [h.cm]; decide)).trans h.cm
         core := hc.congr fun b => by
          unfold grow
          show _ ↔ recol p.col w.heap.size (fun b => b < w'.heap.size) 5 b = 5
          rcases @recol_cases p.col w.heap.size 5 b (fun b => b < w'.heap.size) with ⟨h1, h2⟩ | ⟨h1, h2, h3⟩ | ⟨h1, h2, h3⟩
          ·rw [h2]
           exact ⟨fun h => h.elim id (fun h => by omega), .inl⟩
          ·rw [h3]
           exact ⟨fun _ => rfl, fun _ => .inr ⟨h1, h2⟩⟩
          ·rw [h3]
           refine ⟨fun hx => ?_, fun hx => by cases hx⟩
           rcases hx with hx | hx
           ·have := (h.lt b (by rw [hx]; decide)).2; omega
           ·exact absurd hx.2 h2
         lt := fun b hb => by
          rcases @recol_cases p.col w.heap.size 5 b (fun b => b < w'.heap.size) with ⟨h1, h2⟩ | ⟨h1, h2, h3⟩ | ⟨h1, h2, h3⟩
          ·have hb' : p.col b ≠ 0 := by rw [← h2]; exact hb
           have := hk.size
           exact ⟨(h.lt b hb').1, by omega⟩
          ·exact ⟨by have := (h.lt nb (by rw [h.cn]; decide)); show p.B0 ≤ b; omega, h2⟩
          ·exact absurd h3 hb
         conf := e1, same := e2, apB := h.apB }
theorem NodeIn.ownStep {nd' : NodeD} (h : NodeIn w p nb nd lv sv fv) (hk : Keeps [nb] w w') (hb : w'.heap[nb]? = some (.cells (noRow p nd' (.slice none 0 0)) 55 (0, 0))) (e1 : nd' = { nd with fresh := [], down := nd'.down }) :
 NodeIn w' p nb nd' lv sv (.slice none 0 0) := by
 have k : KeepsP (fun b => p.col b = 1) w w' := KeepsP.of hk (fun b hb => by simp at hb; rw [hb]; exact h.cn)
 have hn : ∀ j, j ≠ 1 → ∀ b, p.col b = 1 → p.col b ≠ j := fun j hj b hb e => hj (by rw [← e]; exact hb)
 rw [e1]
 exact { blk := by rw [← e1]; exact hb, disk := h.diskK k (fun _ _ => rfl) (hn 4 (by decide)), wal := h.walK k (hn 2 (by decide)), core := h.coreK k (fun _ _ => rfl) (fun b hb e => by rw [hb] at e; cases e) (hn 5 (by decide)), mach := h.machK k (hn 6 (by decide)), notes := h.notesK k (hn 3 (by decide)), fresh := OwnAt.nil _ _ _ _, freshB := fun b hb => by simp [mem_ownB, Value.ownBlock] at hb,
         cn := h.cn, cw := h.cw, ct := h.ct, cm := h.cm, lt := fun b hb => ⟨(h.lt b hb).1, Nat.lt_of_lt_of_le (h.lt b hb).2 k.size⟩, conf := h.conf, same := h.same, apB := h.apB }
theorem NodeIn.walStep {d' : DiskD} {n' : Nat} {b' l' : Int} {F' : Nat → Prop} (h : NodeIn w p nb nd lv sv fv) (hd : DiskAt w' F' p.db d') (hF : ∀ x, F' x → p.col x = 4 ∨ w.heap.size ≤ x) (k : KeepsP (fun b => p.col b = 4 ∨ p.col b = 2) w w') (hw : WalBlk w' p.wb p.db (n' : Int) b' l') :
 NodeIn w' { p with col := recol p.col w.heap.size (fun b => F' b ∧ b < w'.heap.size) 4 } nb { nd with disk := d', wn := n', wbase := b', wlast := l' } lv sv fv := by
 have hn : ∀ j, j ≠ 4 → j ≠ 2 → ∀ b, (p.col b = 4 ∨ p.col b = 2) → p.col b ≠ j := fun j hj hj2 b hb e => by
  rcases hb with hb | hb
  ·exact hj (by rw [← e]; exact hb)
  ·exact hj2 (by rw [← e]; exact hb)
 have hr := h.recolK (fun b => F' b ∧ b < w'.heap.size) 4
 have hf := h.freshK k hr (hn 7 (by decide) (by decide))
 exact { blk := h.blkK k (hn 1 (by decide) (by decide)), wal := hw, core := h.coreK k hr (h.recolN _ (by decide) (by decide)) (hn 5 (by decide) (by decide)), mach := h.machK k (hn 6 (by decide) (by decide)), notes := h.notesK k (hn 3 (by decide) (by decide)), fresh := hf.1, freshB := hf.2,
         cn := (hr nb (by rw [h.cn]; decide)).trans h.cn, cw := (hr _ (by rw [h.cw]; decide)).trans h.cw, ct := (hr _ (by rw [h.ct]; decide)).trans h.ct, cm := (hr _ (by rw [h.cm]; decide)).trans h.cm
         disk := hd.mono fun x hx hfx => by
          rcases hF x hfx with h4 | hge
          ·exact (hr x (by rw [h4]; decide)).trans h4
          ·exact recol_new (X := fun b => F' b ∧ b < w'.heap.size) hge (And.intro hfx hx)
         lt := fun b hb => by
          rcases @recol_cases p.col w.heap.size 4 b (fun b => F' b ∧ b < w'.heap.size) with ⟨h1, h2⟩ | ⟨h1, h2, h3⟩ | ⟨h1, h2, h3⟩
          ·have hb' : p.col b ≠ 0 := by rw [← h2]; exact hb
           have := k.size
           exact ⟨(h.lt b hb').1, by omega⟩
          ·exact ⟨by have := (h.lt nb (by rw [h.cn]; decide)); show p.B0 ≤ b; omega, h2.2⟩
          ·exact absurd h3 hb
         conf := h.conf, same := h.same, apB := h.apB }
end
theorem maApplied_any (w : World) (mb sb : Nat) (ses ap : Int) (h : MachAt w mb sb ses ap) : Calls Tryz.prog 20 #[.pointer (some ⟨mb, 0, none⟩)] w fun e w' => e = .returned (.int .i64 ap) ∧ w' = w := by
 obtain ⟨e, t, h⟩ := h
 have h1 : w.cell? ⟨mb, 4, none⟩ = some (.int .i64 ap) := cell_of_block h 4
 clear h
 go_enter Tryz.func20, Tryz.ntmps20
 go_wp2
 go_ret
 exact ⟨rfl, rfl⟩
theorem noFails_ok (w : World) : Calls Tryz.prog 43 #[.int .i64 0] w fun e w' => e = .returned (.tuple #[]) ∧ w' = w := by
 go_enter Tryz.func43, Tryz.ntmps43
 go_wp2_with fail
 exact bodyPost_end (by simp [results, Tryz.results43, go_sem]) rfl ⟨rfl, rfl⟩
section
variable (w : World) (p : NoP) (nb : Nat) (nd : NodeD) (lv sv fv : Value) (h : NodeIn w p nb nd lv sv fv)
include h
theorem noDown_any : Calls Tryz.prog 25 #[.pointer (some ⟨nb, 0, none⟩)] w fun e w' => e = .returned (.bool nd.down) ∧ w' = w := by
 have h1 : w.cell? ⟨nb, 17, none⟩ = some (.bool nd.down) := cell_of_block h.blk 17
 clear h
 go_enter Tryz.func25, Tryz.ntmps25
 go_wp2
 go_ret
 exact ⟨rfl, rfl⟩
theorem noTerm_any : Calls Tryz.prog 9 #[.pointer (some ⟨nb, 0, none⟩)] w fun e w' => e = .returned (.int .i64 nd.core.term) ∧ w' = w := by
 have h1 : w.cell? ⟨nb, 13, none⟩ = some (.pointer (some ⟨p.cb, 0, none⟩)) := cell_of_block h.blk 13
 have HC := hid (cTerm_any w p.B p.cb _ lv sv h.core.1)
 clear h
 go_enter Tryz.func9, Tryz.ntmps9
 go_wp2_with fail
 refine HC.out.mono ?_
 rintro e w1 ⟨rfl, hw⟩
 rw [hw]
 clear hw
 go_wp2_with fail
 go_ret
 exact ⟨rfl, rfl⟩
theorem noLeader_any : Calls Tryz.prog 8 #[.pointer (some ⟨nb, 0, none⟩)] w fun e w' => e = .returned (.int .i64 nd.core.leader) ∧ w' = w := by
 have h1 : w.cell? ⟨nb, 13, none⟩ = some (.pointer (some ⟨p.cb, 0, none⟩)) := cell_of_block h.blk 13
 have HC := hid (cLeader_any w p.B p.cb _ lv sv h.core.1)
 clear h
 go_enter Tryz.func8, Tryz.ntmps8
 go_wp2_with fail
 refine HC.out.mono ?_
 rintro e w1 ⟨rfl, hw⟩
 rw [hw]
 clear hw
 go_wp2_with fail
 go_ret
 exact ⟨rfl, rfl⟩
theorem noApplied_any : Calls Tryz.prog 24 #[.pointer (some ⟨nb, 0, none⟩)] w fun e w' => e = .returned (.int .i64 nd.ap) ∧ w' = w := by
 have h1 : w.cell? ⟨nb, 14, none⟩ = some (.pointer (some ⟨p.mb, 0, none⟩)) := cell_of_block h.blk 14
 have HC := hid (maApplied_any w p.mb p.sb _ _ h.mach)
 clear h
 go_enter Tryz.func24, Tryz.ntmps24
 go_wp2_with fail
 refine HC.out.mono ?_
 rintro e w1 ⟨rfl, hw⟩
 rw [hw]
 clear hw
 go_wp2_with fail
 go_ret
 exact ⟨rfl, rfl⟩
theorem noTold_any (tt c a : Int) (ok : Bool) (da : Option Addr) (n dc : Nat) :
 Calls Tryz.prog 55 #[.pointer (some ⟨nb, 0, none⟩), .int .i64 tt, .int .i64 c, .bool ok, .int .i64 a, .slice da n dc] w fun e w' => e = .returned (.agg #[.int .i64 7, .int .i64 nd.id, .int .i64 tt, .int .i64 nd.core.term, .int .i64 a, .int .i64 0, .int .i64 c, .bool ok, .slice none 0 0, .slice da n dc]) ∧ Keeps [] w w' := by
 have x11 : w.cell? ⟨nb, 11, none⟩ = some (.int .i64 nd.id) := cell_of_block h.blk 11
 have x13 : w.cell? ⟨nb, 13, none⟩ = some (.pointer (some ⟨p.cb, 0, none⟩)) := cell_of_block h.blk 13
 have HC : Hid (∀ wx, Keeps [] w wx → Calls Tryz.prog 23 #[.pointer (some ⟨p.cb, 0, none⟩)] wx fun e w' => e = .returned (.int .i64 nd.core.term) ∧ w' = wx) := fun wx k => by
  have h1 := cTerm_any wx p.B p.cb _ lv sv (h.core.k k).1
  exact h1
 have hlt : nb < w.heap.size := (Array.getElem?_eq_some_iff.1 h.blk).1
 obtain ⟨tm, htm⟩ : ∃ t, nd.core.term = t := ⟨_, rfl⟩
 rw [htm] at HC ⊢
 clear h htm
 go_enter Tryz.func55, Tryz.ntmps55
 go_wp2_with fail
 refine Plan.wp_region_plan (fun wx => wx.cell? ⟨nb, 11, none⟩ = some (.int .i64 nd.id) ∧ wx.cell? ⟨nb, 13, none⟩ = some (.pointer (some ⟨p.cb, 0, none⟩))) 14 [(true, 0), (true, 1), (true, 2), (true, 3), (true, 4), (true, 5), (true, 6), (true, 7), (true, 8), (true, 10), (true, 11), (true, 12), (true, 13), (false, 9)] (by kernel_rfl) (by as_aux_lemma => kernel_rfl) (by kernel_rfl) (fun _ _ _ _ _ h => h) ?_ (fun hS => ?_)
 (·go_simp)
 simp only [Plan.pick, List.append_eq, List.cons_append, List.nil_append, Plan.g1, Plan.g2, Option.getD_some, List.drop_succ_cons, List.drop_zero]
 iterate 13 (first | refine Plan.tA ?_ | refine Plan.tY ?_ | refine Plan.pN ?_ | refine Plan.pU ?_ | fail)
 refine Plan.step ?_
 go_wp2_with fail
 refine (HC.out _ (by exact Keeps.K)).mono ?_
 rintro e w1 ⟨rfl, hw⟩
 rw [hw]
 clear hw
 go_wp2_with fail
 refine ⟨⟨by go_simp, by go_simp⟩, ?_⟩
 refine Plan.fin ?_
 clear hS
 go_wp2_with fail
 refine bodyPost_ret (v := .agg #[.int .i64 7, .int .i64 nd.id, .int .i64 tt, .int .i64 tm, .int .i64 a, .int .i64 0, .int .i64 c, .bool ok, .slice none 0 0, .slice da n dc]) (results_cell_row rfl _ _ w.heap.size 30 _ (0, 0) _ rfl (heap_alloc_new _ _) Tryz.underlying30 rfl (by kernel_rfl)) rfl ⟨rfl, ?_⟩
 exact Keeps.K
end
def toldD (nd : NodeD) (tt c : Int) (ok : Bool) (a : Int) (data : List UInt8) : MsgD := ⟨7, nd.id, tt, nd.core.term, a, 0, c, ok, [], data⟩
def diskOkB (d : DiskD) : Bool := decide (0 ≤ d.calls ∧ d.calls ≤ 1000000 ∧ 0 ≤ d.after ∧ d.after ≤ 1099511627776 ∧ (usedD d : Int) ≤ d.room ∧ d.room ≤ 16777216 ∧ d.files.length ≤ 64)
theorem diskOk_of {d : DiskD} (h : diskOkB d = true) : DiskOk2 1000000 d := by
 unfold diskOkB at h
 simp only [decide_eq_true_eq] at h
 obtain ⟨h1, h2, h3, h4, h5, h6, h7⟩ := h
 exact ⟨h1, by omega, h3, h4, h5, h6, h7⟩
def askN (nd : NodeD) (m : MsgD) : Option (NodeD × List MsgD) :=
 if (getC m.data).2 = false ∨ m.frm < 101 ∨ 999 < m.frm ∨ m.«to» ≠ nd.id then some (nd, [])
 else if nd.core.role ≠ 2 then some (nd, [toldD nd m.frm m.c false nd.core.leader []])
 else none
def saveN (nd : NodeD) (hard : Bool) (frm : Int) : Option NodeD :=
 if frm ≠ 0 then none
 else if hard = false then some nd
 else if (inW nd.core.term 1099511627776 && (inW nd.core.vote 7 && (diskOkB nd.disk && decide (nd.wn ≤ 99999999)))) = false then none
 else if (dappend nd.disk (walN nd.wn) (frameD (recordP 1 [nd.core.term, nd.core.vote]))).2 ≠ 0 then none
 else if diskOkB (dappend nd.disk (walN nd.wn) (frameD (recordP 1 [nd.core.term, nd.core.vote]))).1 = false then none
 else if (dsync (dappend nd.disk (walN nd.wn) (frameD (recordP 1 [nd.core.term, nd.core.vote]))).1 (walN nd.wn)).2 ≠ 0 then none
 else some { nd with disk := (dsync (dappend nd.disk (walN nd.wn) (frameD (recordP 1 [nd.core.term, nd.core.vote]))).1 (walN nd.wn)).1 }
def writeN (nd : NodeD) : Option NodeD :=
 if (changesD nd.core).2.2.2 = true then none
 else match saveN { nd with core := (changesD nd.core).1, fresh := [] } (changesD nd.core).2.1 (changesD nd.core).2.2.1 with
  | none => none
  | some n => if n.notes.isEmpty = true ∧ n.core.commit ≤ n.ap ∧ n.ap - n.core.base < n.conf.snap then some n else none
def hearN (nd : NodeD) (m : MsgD) : Option (NodeD × List MsgD) :=
 if nd.down = true then some ({ nd with fresh := [] }, [])
 else if m.kind = 6 then
  match askN nd m with
  | none => none
  | some r => (writeN r.1).map fun n => (n, r.2)
 else if m.kind = 5 then none
 else (writeN { nd with core := (hearD nd.core m).1 }).map fun n => (n, (hearD nd.core m).2)
def NoStep (w : World) (p : NoP) (lv : Value) (nb : Nat) (nd' : NodeD) (w' : World) : Prop :=
 ∃ (col : Nat → Nat) (lv' sv' fv' : Value), NodeIn w' { p with col := col } nb nd' lv' sv' fv' ∧ KeepsP (p.wr lv) w w' ∧ (∀ b, NoP.wr { p with col := col } lv' b → p.wr lv b ∨ w.heap.size ≤ b) ∧ (∀ b, col b ≠ 0 → p.col b ≠ 0 ∨ w.heap.size ≤ b)
theorem NoStep.refl {w : World} {p : NoP} {nb : Nat} {nd : NodeD} {lv sv fv : Value} (h : NodeIn w p nb nd lv sv fv) : NoStep w p lv nb nd w := ⟨p.col, lv, sv, fv, h, KeepsP.refl _ _, fun _ h => .inl h, fun _ h => .inl h⟩
theorem NoStep.comp {w w1 w2 : World} {p : NoP} {nb : Nat} {nd2 : NodeD} {lv lv1 : Value} {col : Nat → Nat} (hk : KeepsP (p.wr lv) w w1) (hw : ∀ b, NoP.wr { p with col := col } lv1 b → p.wr lv b ∨ w.heap.size ≤ b) (hc : ∀ b, col b ≠ 0 → p.col b ≠ 0 ∨ w.heap.size ≤ b)
 (h2 : NoStep w1 { p with col := col } lv1 nb nd2 w2) : NoStep w p lv nb nd2 w2 := by
 obtain ⟨col2, lv2, sv2, fv2, hn2, hk2, hw2, hc2⟩ := h2
 refine ⟨col2, lv2, sv2, fv2, hn2, hk.trans hk2 (fun x hx h => (hw x h).elim id (fun h => by omega)), fun b hb => ?_, fun b hb => ?_⟩
 ·rcases hw2 b hb with h | h
  ·exact hw b h
  ·exact .inr (Nat.le_trans hk.size h)
 ·rcases hc2 b hb with h | h
  ·exact hc b h
  ·exact .inr (Nat.le_trans hk.size h)
theorem NodeIn.not_wr {w : World} {p : NoP} {nb b : Nat} {nd : NodeD} {lv sv fv : Value} (h : NodeIn w p nb nd lv sv fv) (hb : p.col b = 0) : ¬ p.wr lv b := fun hw => by
 unfold NoP.wr at hw
 rcases hw with hw | hw | hw | hw | hw | hw | hw | hw
 ·omega
 ·omega
 ·omega
 ·omega
 ·omega
 ·omega
 ·have := h.core.mem b (by simp [hw]); omega
 ·have := h.core.mem b (by simp [hw]); omega
theorem NodeIn.wr_lt {w : World} {p : NoP} {nb b : Nat} {nd : NodeD} {lv sv fv : Value} (h : NodeIn w p nb nd lv sv fv) (hb : p.wr lv b) : p.B0 ≤ b ∧ b < w.heap.size := h.lt b fun e => h.not_wr e hb
theorem NodeIn.new0 {w : World} {p : NoP} {nb b : Nat} {nd : NodeD} {lv sv fv : Value} (h : NodeIn w p nb nd lv sv fv) (hb : w.heap.size ≤ b) : p.col b = 0 := Classical.byContradiction fun e => by have := (h.lt b e).2; omega
theorem NoStep.blk {w w' : World} {p : NoP} {nb b : Nat} {nd nd' : NodeD} {lv sv fv : Value} {o : Obj} (hs : NoStep w p lv nb nd' w') (h : NodeIn w p nb nd lv sv fv) (hb : p.col b = 0) (ho : w.heap[b]? = some o) : w'.heap[b]? = some o := by
 obtain ⟨col, lv', sv', fv', hn, ⟨G, hk, hg⟩, hw, hc⟩ := hs
 exact (hk.block b (Array.getElem?_eq_some_iff.1 ho).1 (fun hm => h.not_wr hb (hg b hm))).trans ho
theorem wr_recol {p : NoP} {s k b : Nat} {X : Nat → Prop} {lv lv' : Value} (hv : ∀ b ∈ ownB lv', b ∈ ownB lv ∨ s ≤ b) (h : NoP.wr { p with col := recol p.col s X k } lv' b) : p.wr lv b ∨ s ≤ b := by
 by_cases hs : s ≤ b
 ·exact .inr hs
 ·unfold NoP.wr at h ⊢
  dsimp only at h
  rw [recol_old (by omega)] at h
  rcases h with h | h | h | h | h | h | h | h
  ·exact .inl (.inl h)
  ·exact .inl (.inr (.inl h))
  ·exact .inl (.inr (.inr (.inl h)))
  ·exact .inl (.inr (.inr (.inr (.inl h))))
  ·exact .inl (.inr (.inr (.inr (.inr (.inl h)))))
  ·exact .inl (.inr (.inr (.inr (.inr (.inr (.inl h))))))
  ·exact .inl (.inr (.inr (.inr (.inr (.inr (.inr (.inl h)))))))
  ·rcases hv b h with h | h
   ·exact .inl (.inr (.inr (.inr (.inr (.inr (.inr (.inr h)))))))
   ·exact .inr h
theorem col_recol {p : NoP} {s k b : Nat} {X : Nat → Prop} (h : recol p.col s X k b ≠ 0) : p.col b ≠ 0 ∨ s ≤ b := by
 by_cases hs : s ≤ b
 ·exact .inr hs
 ·rw [recol_old (by omega)] at h
  exact .inl h
section
variable {w w' : World} {p : NoP} {nb : Nat} {nd : NodeD} {lv sv fv : Value}
theorem NoStep.core {c' : CoreD} {lv' sv' : Value} (h : NodeIn w p nb nd lv sv fv) (hc : CoreIn w' p.B (grow (fun b => p.col b = 5) w w') p.cb c' lv' sv') (hk : Keeps (p.cb :: ownB lv) w w') (hv : ∀ b ∈ ownB lv', b ∈ ownB lv ∨ w.heap.size ≤ b) (e1 : c'.conf = nd.conf) (e2 : c'.id = nd.id) : NoStep w p lv nb { nd with core := c' } w' :=
 ⟨_, lv', sv', fv, h.coreStep hc hk e1 e2, KeepsP.of hk (fun b hb => by
  rcases List.mem_cons.1 hb with hb | hb
  ·exact .inr (.inr (.inr (.inr (.inr (.inr (.inl hb))))))
  ·exact .inr (.inr (.inr (.inr (.inr (.inr (.inr hb))))))), fun b hb => wr_recol hv hb, fun b hb => col_recol hb⟩
theorem NoStep.wal {d' : DiskD} {n' : Nat} {b' l' : Int} {F' : Nat → Prop} (h : NodeIn w p nb nd lv sv fv) (hd : DiskAt w' F' p.db d') (hF : ∀ x, F' x → p.col x = 4 ∨ w.heap.size ≤ x) (k : KeepsP (fun b => p.col b = 4 ∨ p.col b = 2) w w') (hw : WalBlk w' p.wb p.db (n' : Int) b' l') : NoStep w p lv nb { nd with disk := d', wn := n', wbase := b', wlast := l' } w' :=
 ⟨_, lv, sv, fv, h.walStep hd hF k hw, k.mono (fun x _ hx => hx.elim (fun h => .inr (.inr (.inr (.inl h)))) (fun h => .inr (.inl h))), fun b hb => wr_recol (fun _ h => .inl h) hb, fun b hb => col_recol hb⟩
theorem NoStep.other {w2 : World} {G : Nat → Prop} (hs : NoStep w p lv nb nd w') (k : KeepsP G w' w2) (hG : ∀ b, G b → w.heap.size ≤ b ∧ ∀ (col : Nat → Nat) (lv' sv' fv' : Value), NodeIn w' { p with col := col } nb nd lv' sv' fv' → (∀ b, col b ≠ 0 → p.col b ≠ 0 ∨ w.heap.size ≤ b) → col b = 0) : NoStep w p lv nb nd w2 := by
 obtain ⟨col, lv', sv', fv', hn, hk, hw, hc⟩ := hs
 exact ⟨col, lv', sv', fv', hn.keep k (fun b hb => (hG b hb).2 col lv' sv' fv' hn hc), hk.trans k (fun x hx h => by have := (hG x h).1; omega), hw, hc⟩
theorem NoStep.k {w2 : World} (hs : NoStep w p lv nb nd w') (k : Keeps [] w' w2) : NoStep w p lv nb nd w2 := hs.other (KeepsP.of0 (F := fun _ => False) k) (fun _ h => h.elim)
end
theorem NoStep.pre {w wx w' : World} {p : NoP} {nb : Nat} {nd : NodeD} {lv : Value} (k : Keeps [] w wx) (h : NoStep wx p lv nb nd w') : NoStep w p lv nb nd w' := by
 obtain ⟨col, lv', sv', fv', hn, hk, hw, hc⟩ := h
 exact ⟨col, lv', sv', fv', hn, (KeepsP.of0 (F := p.wr lv) k).trans hk (fun _ _ h => h), fun b hb => (hw b hb).imp id (fun h => Nat.le_trans k.size h), fun b hb => (hc b hb).imp id (fun h => Nat.le_trans k.size h)⟩
def NoPost (w : World) (p : NoP) (lv : Value) (nb : Nat) (r : NodeD × List MsgD) (e : Ending) (w' : World) : Prop :=
 ∃ (a : Option Addr) (q : Nat) (col : Nat → Nat) (lv' sv' fv' : Value), e = .returned (.slice a r.2.length q) ∧ NodeIn w' { p with col := col } nb r.1 lv' sv' fv' ∧ KeepsP (p.wr lv) w w' ∧ (∀ b, NoP.wr { p with col := col } lv' b → p.wr lv b ∨ w.heap.size ≤ b) ∧ (∀ b, col b ≠ 0 → p.col b ≠ 0 ∨ w.heap.size ≤ b) ∧
   ListAt msgL w' (fun b => w.heap.size ≤ b ∧ ¬ NoP.wr { p with col := col } lv' b) (.slice a r.2.length q) r.2
section
variable {w w' : World} {p : NoP} {nb : Nat} {nd : NodeD} {lv sv fv : Value}
theorem NoPost.core {r : CoreD × List MsgD} {e : Ending} (h : NodeIn w p nb nd lv sv fv) (hp : CoPost p.B (fun b => p.col b = 5) p.cb lv r w e w') (e1 : r.1.conf = nd.conf) (e2 : r.1.id = nd.id) : NoPost w p lv nb ({ nd with core := r.1 }, r.2) e w' := by
 obtain ⟨a, q, lv', sv', he, hc, hm, hk, hv⟩ := hp
 obtain ⟨hs1, hs2, hs3⟩ := (show KeepsP (p.wr lv) w w' ∧ (∀ b, NoP.wr { p with col := recol p.col w.heap.size (fun b => b < w'.heap.size) 5 } lv' b → p.wr lv b ∨ w.heap.size ≤ b) ∧ (∀ b, recol p.col w.heap.size (fun b => b < w'.heap.size) 5 b ≠ 0 → p.col b ≠ 0 ∨ w.heap.size ≤ b) from
  ⟨KeepsP.of hk (fun b hb => by
   rcases List.mem_cons.1 hb with hb | hb
   ·exact .inr (.inr (.inr (.inr (.inr (.inr (.inl hb))))))
   ·exact .inr (.inr (.inr (.inr (.inr (.inr (.inr hb))))))), fun b hb => wr_recol hv hb, fun b hb => col_recol hb⟩)
 refine ⟨a, q, _, lv', sv', fv, he, h.coreStep hc hk e1 e2, hs1, hs2, hs3, hm.list.mono fun b hb hx => ⟨hx.1, fun hw => ?_⟩⟩
 unfold NoP.wr at hw
 dsimp only at hw
 rw [recol_new hx.1 hb] at hw
 rcases hw with hw | hw | hw | hw | hw | hw | hw | hw
 ·cases hw
 ·cases hw
 ·cases hw
 ·cases hw
 ·cases hw
 ·cases hw
 ·exact hx.2.1 hw
 ·exact hx.2.2 hw
theorem NoPost.comp {n2 : NodeD} {l : List MsgD} {w1 w2 : World} {a : Option Addr} {q : Nat} {col : Nat → Nat} {lv1 : Value} (hk : KeepsP (p.wr lv) w w1) (hw : ∀ b, NoP.wr { p with col := col } lv1 b → p.wr lv b ∨ w.heap.size ≤ b) (hc : ∀ b, col b ≠ 0 → p.col b ≠ 0 ∨ w.heap.size ≤ b)
 (hm : ListAt msgL w1 (fun b => w.heap.size ≤ b ∧ ¬ NoP.wr { p with col := col } lv1 b) (.slice a l.length q) l) (h2 : NoStep w1 { p with col := col } lv1 nb n2 w2) : NoPost w p lv nb (n2, l) (.returned (.slice a l.length q)) w2 := by
 obtain ⟨col2, lv2, sv2, fv2, hn2, hk2, hw2, hc2⟩ := h2
 obtain ⟨G, hG, hg⟩ := id hk2
 refine ⟨a, q, col2, lv2, sv2, fv2, rfl, hn2, hk.trans hk2 (fun x hx h => (hw x h).elim id (fun h => by omega)), fun b hb => ?_, fun b hb => ?_, ?_⟩
 ·rcases hw2 b hb with h | h
  ·exact hw b h
  ·exact .inr (Nat.le_trans hk.size h)
 ·rcases hc2 b hb with h | h
  ·exact hc b h
  ·exact .inr (Nat.le_trans hk.size h)
 ·refine ListAt.mono ((hm.mono (P' := fun b => (w.heap.size ≤ b ∧ ¬ NoP.wr { p with col := col } lv1 b) ∧ b < w1.heap.size) (fun b hb hx => ⟨hx, hb⟩)).keep hG (fun b hb hm => hb.1.2 (hg b hm))) fun b _ hb => ⟨hb.1.1, fun hw => ?_⟩
  rcases hw2 b hw with h | h
  ·exact hb.1.2 h
  ·omega
theorem NoPost.pre {r : NodeD × List MsgD} {e : Ending} {wx : World} (k : Keeps [] w wx) (h : NoPost wx p lv nb r e w') : NoPost w p lv nb r e w' := by
 obtain ⟨a, q, col, lv1, sv1, fv1, he, hn, hk, hw, hc, hm⟩ := h
 exact ⟨a, q, col, lv1, sv1, fv1, he, hn, (KeepsP.of0 (F := p.wr lv) k).trans hk (fun _ _ h => h), fun b hb => (hw b hb).imp id (fun h => Nat.le_trans k.size h), fun b hb => (hc b hb).imp id (fun h => Nat.le_trans k.size h), hm.mono fun b _ hb => ⟨Nat.le_trans k.size hb.1, hb.2⟩⟩
theorem NoPost.k {r : NodeD × List MsgD} {e : Ending} {w2 : World} (h : NoPost w p lv nb r e w') (k : Keeps [] w' w2) : NoPost w p lv nb r e w2 := by
 obtain ⟨a, q, col, lv1, sv1, fv1, he, hn, hk, hw, hc, hm⟩ := h
 exact ⟨a, q, col, lv1, sv1, fv1, he, hn.k k, hk.trans (KeepsP.of0 (F := fun _ => False) k) (fun _ _ h => h.elim), hw, hc, hm.k k⟩
theorem NoPost.silent {nd' : NodeD} (h : NoStep w p lv nb nd' w') : NoPost w p lv nb (nd', []) (.returned (.slice none 0 0)) w' := by
 obtain ⟨col, lv', sv', fv', hn, hk, hw, hc⟩ := h
 exact ⟨none, 0, col, lv', sv', fv', rfl, hn, hk, hw, hc, ListAt.nil _ _ _ _⟩
theorem NoPost.fresh {nd' : NodeD} {l : List MsgD} {e : Ending} {w1 : World} (h : NoStep w p lv nb nd' w1) (hp : MsgsPost l w1 e w') : NoPost w p lv nb (nd', l) e w' := by
 obtain ⟨col, lv', sv', fv', hn, hk, hw, hc⟩ := h
 obtain ⟨a, q, he, hf, hk1⟩ := hp
 refine ⟨a, q, col, lv', sv', fv', he, hn.k hk1, hk.trans (KeepsP.of0 (F := fun _ => False) hk1) (fun _ _ h => h.elim), hw, hc, OwnAt.list hf (fun b hb hx => ⟨Nat.le_trans hk.size hx.1, fun hwr => ?_⟩) (fun b hb => ⟨Nat.le_trans hk.size (OwnAt.ge hf b hb).1, fun hwr => ?_⟩)⟩
 ·have := (hn.wr_lt hwr).2
  have := hx.1
  omega
 ·have := (hn.wr_lt hwr).2
  have := (OwnAt.ge hf b hb).1
  omega
end
theorem coGive_any (w : World) (B : Nat) (C : Nat → Prop) (cb : Nat) (c : CoreD) (lv sv : Value) (h : CoreIn w B C cb c lv sv) (P : Nat → Prop) (data : List UInt8) (da : Option Addr) (dc : Nat) (hd : BytesAt w P (.slice da data.length dc) data) (hdl : data.length ≤ 1000000) :
 Calls Tryz.prog 38 #[.pointer (some ⟨cb, 0, none⟩), .slice da data.length dc] w fun e w' => e = .returned (.tuple #[]) ∧ ∃ sv', CoreIn w' B (grow C w w') cb { c with snap := data } lv sv' ∧ Keeps [cb] w w' := by
 have x18 : w.cell? ⟨cb, 18, none⟩ = some sv := h.1.blk.cell 18
 have f18 : w.frozen? ⟨cb, 18, none⟩ = false := h.1.blk.free 18
 have hlt := h.1.blk.lt
 have H := hid h
 have HL := hid (listB_any (.slice da data.length dc) data w hd.1 (by omega))
 have HDL := hid hdl
 clear h hd hdl
 go_enter Tryz.func38, Tryz.ntmps38
 go_wp2_with fail
 refine HL.out.mono ?_
 rintro e w1 ⟨a1, q1, rfl, ho, hk⟩
 have y18 := hk.cellSome x18 (by simp)
 have g18 : w1.frozen? ⟨cb, 18, none⟩ = false := (hk.frozen (a := ⟨cb, 18, none⟩) hlt (by simp)).trans f18
 have HO := hid ho
 have HK := hid hk
 clear ho hk x18 f18
 go_wp2_with fail
 refine bodyPost_end (by simp [results, Tryz.results38, go_sem]) rfl ⟨rfl, .slice a1 data.length q1, ?_, (HK.out.mono (fun _ _ h => by cases h)).trans ((Keeps.refl _ _).setCell (F := [cb]) (.inl (by simp)) _) (fun _ _ h => h)⟩
 have ks : Keeps [cb] w1 (w1.setCell ⟨cb, 18, none⟩ (.slice a1 data.length q1)) := (Keeps.refl _ _).setCell (.inl (by simp)) _
 have kw : Keeps [cb] w (w1.setCell ⟨cb, 18, none⟩ (.slice a1 data.length q1)) := (HK.out.mono (fun _ _ h => by cases h)).trans ks (fun _ _ h => h)
 have h1 := H.out.1.k HK.out
 have hbl : CoreBlk (w1.setCell ⟨cb, 18, none⟩ (.slice a1 data.length q1)) cb (reban (fun b => b < w.heap.size ∧ ¬ C b) { c with snap := data }) lv (.slice a1 data.length q1) := CoreBlk.set h1.blk 18 _ rfl
 have hge := fun b hb => (ownB_ge HO.out b hb).1
 refine CoreIn.of H.out.2 { blk := hbl, own := ?_, snap := ?_, apart := h1.apart, base := h1.base, old := fun b hb => Nat.lt_of_lt_of_le hb.1 kw.size, free := h1.free, ok := ?_ } kw.size
 ·exact h1.own.keep ks (fun b h1' h2 => by simp at h2; rw [h2] at h1'; exact h1.apart h1') (fun b h1' h2 => by simp at h2; exact h1'.1.1 h2)
 ·have hoff : ∀ b, w.heap.size ≤ b → Off cb lv b ∧ ¬ (b < w.heap.size ∧ ¬ C b) := fun b hb => ⟨⟨fun e => by omega, fun e => by
   have := (H.out.1.lt b (List.mem_cons_of_mem _ e)).2
   omega⟩, fun e => by omega⟩
  exact (BytesAt.ofOwn (P := fun b => w.heap.size ≤ b) HO.out rfl (fun b hb _ => hb)).keep ks (fun b hb h2 => by simp at h2; omega) |>.mono fun b _ hb => hoff b hb
 ·have o := H.out.1.ok
  exact { may := o.may, id := o.id, term := o.term, base := o.base, baseTerm := o.baseTerm, len := o.len, last := o.last, commit := o.commit, draw := o.draw, votes := o.votes, next := o.next, matc := o.matc, nexts := o.nexts, matcs := o.matcs, ents := o.ents, frm := o.frm, data := o.data, snap := HDL.out }
theorem place_big (v n : Int) (w : World) (h0 : 0 < n) (h1 : n ≤ 1099511627776) (_wv : (Lit.int .i64 v).wf = true) :
 Calls Tryz.prog 5 #[.int .i64 v, .int .i64 n] w fun e w' => e = .returned (.int .i64 (placeOf v n)) ∧ w' = w := by
 have hn : n ≠ 0 := by omega
 have a1 : v.tmod n < n := Int.tmod_lt_of_pos v h0
 have a2 : -n < v.tmod n := by have := Int.lt_tmod_of_pos v h0; omega
 by_cases hc : v.tmod n < 0
 ·go_enter Tryz.func5, Tryz.ntmps5
  go_wp2
  go_ret
  exact ⟨by simp [placeOf, hc], rfl⟩
 ·go_enter Tryz.func5, Tryz.ntmps5
  go_wp2
  go_ret
  have e : placeOf v n = v.tmod n := by rw [placeOf, if_neg (by omega)]
  exact ⟨by rw [e]; rfl, rfl⟩
def FormEnd (w : World) (l : List FldD) (e : Ending) (w' : World) : Prop := ∃ a c, e = .returned (.slice a l.length c) ∧ ListAt fldL w' (fun b => w.heap.size ≤ b) (.slice a l.length c) l ∧ Keeps [] w w'
theorem formEnd_of (w : World) (l : List FldD) (n : Nat) (cs : Array Value) (hn : l.length = n) (h0 : n ≠ 0) (hm : n ≤ 1000) (hc : cs.toList = (l.map fldC).flatten) : FormEnd w l (.returned (.slice (some ⟨w.heap.size, 0, none⟩) n n)) (w.alloc (.cells cs 71)) := by
 have hl : ∀ cs ∈ l.map fldC, cs.length = 5 := fun cs hcs => by
  obtain ⟨f, -, rfl⟩ := List.mem_map.1 hcs
  rfl
 have hf := flatten_length hl
 have hsz : cs.size = n * 5 := by rw [← Array.length_toList, hc, hf, List.length_map, hn]
 refine ⟨_, _, by rw [hn], ⟨l.map fldC, ⟨by simp, fun i cs a h1 h2 => ?_⟩, ?_, fun h b hb => ?_⟩, (Keeps.refl _ _).alloc _⟩
 ·rw [List.getElem?_map, h2] at h1
  simp at h1
  exact h1.symm
 ·rw [← hc, hn]
  exact Reads.ofBlock (heap_alloc_new w _) hsz (le_maxLen (by omega))
 ·rw [mem_ownB] at hb
  simp [Value.ownBlock] at hb
  omega
theorem lForm_0 (v : Int) (w : World) (wv : (Lit.int .i64 v).wf = true) (h : placeOf v 5 = 0) : Calls Tryz.prog 12 #[.int .i64 v] w (FormEnd w form0) := by
 go_enter Tryz.func12, Tryz.ntmps12
 go_wp2_with fail
 refine (place_is 0 v 5 _ (by decide) (by decide) wv h).mono ?_
 rintro e w1 ⟨rfl, hw⟩
 rw [hw]
 clear hw
 go_wp2_with fail
 go_ret
 exact formEnd_of w form0 _ _ rfl (by decide) (by decide) (by kernel_rfl)
theorem lForm_1 (v : Int) (w : World) (wv : (Lit.int .i64 v).wf = true) (h : placeOf v 5 = 1) : Calls Tryz.prog 12 #[.int .i64 v] w (FormEnd w form1) := by
 go_enter Tryz.func12, Tryz.ntmps12
 go_wp2_with fail
 refine (place_is 1 v 5 _ (by decide) (by decide) wv h).mono ?_
 rintro e w1 ⟨rfl, hw⟩
 rw [hw]
 clear hw
 go_wp2_with fail
 go_ret
 exact formEnd_of w form1 _ _ rfl (by decide) (by decide) (by kernel_rfl)
theorem lForm_2 (v : Int) (w : World) (wv : (Lit.int .i64 v).wf = true) (h : placeOf v 5 = 2) : Calls Tryz.prog 12 #[.int .i64 v] w (FormEnd w form2) := by
 go_enter Tryz.func12, Tryz.ntmps12
 go_wp2_with fail
 refine (place_is 2 v 5 _ (by decide) (by decide) wv h).mono ?_
 rintro e w1 ⟨rfl, hw⟩
 rw [hw]
 clear hw
 go_wp2_with fail
 go_ret
 exact formEnd_of w form2 _ _ rfl (by decide) (by decide) (by kernel_rfl)
theorem lForm_3 (v : Int) (w : World) (wv : (Lit.int .i64 v).wf = true) (h : placeOf v 5 = 3) : Calls Tryz.prog 12 #[.int .i64 v] w (FormEnd w form3) := by
 go_enter Tryz.func12, Tryz.ntmps12
 go_wp2_with fail
 refine (place_is 3 v 5 _ (by decide) (by decide) wv h).mono ?_
 rintro e w1 ⟨rfl, hw⟩
 rw [hw]
 clear hw
 go_wp2_with fail
 go_ret
 exact formEnd_of w form3 _ _ rfl (by decide) (by decide) (by kernel_rfl)
theorem lForm_4 (v : Int) (w : World) (wv : (Lit.int .i64 v).wf = true) (h : placeOf v 5 = 4) : Calls Tryz.prog 12 #[.int .i64 v] w (FormEnd w form4) := by
 go_enter Tryz.func12, Tryz.ntmps12
 go_wp2_with fail
 refine (place_is 4 v 5 _ (by decide) (by decide) wv h).mono ?_
 rintro e w1 ⟨rfl, hw⟩
 rw [hw]
 clear hw
 go_wp2_with fail
 go_ret
 exact formEnd_of w form4 _ _ rfl (by decide) (by decide) (by kernel_rfl)
theorem lForm_any (v : Int) (w : World) (wv : (Lit.int .i64 v).wf = true) : Calls Tryz.prog 12 #[.int .i64 v] w (FormEnd w (formD (placeOf v 5))) := by
 have hb := placeOf_bd v 5 (by decide)
 rcases (show placeOf v 5 = 0 ∨ placeOf v 5 = 1 ∨ placeOf v 5 = 2 ∨ placeOf v 5 = 3 ∨ placeOf v 5 = 4 by omega) with h | h | h | h | h <;> rw [h]
 ·exact lForm_0 v w wv h
 ·exact lForm_1 v w wv h
 ·exact lForm_2 v w wv h
 ·exact lForm_3 v w wv h
 ·exact lForm_4 v w wv h
def lconfD (a b c d : Int) : ConfD := { nodes := 3 + placeOf a 3, clients := placeOf b 4, heart := 2, lo := 8, range := 40, sessions := 1 + placeOf d 4, snap := 1 + placeOf c 12, room := 200, retry := 9 }
theorem lconfD_may (a b c d : Int) : (lconfD a b c d).may = true := by
 have h1 := placeOf_bd a 3 (by decide)
 have h2 := placeOf_bd b 4 (by decide)
 have h3 := placeOf_bd c 12 (by decide)
 have h4 := placeOf_bd d 4 (by decide)
 rw [ConfD.may_iff]
 unfold lconfD
 dsimp only
 omega
theorem lConf_all (a b c d : Int) (w : World) (wa : (Lit.int .i64 a).wf = true) (wb : (Lit.int .i64 b).wf = true) (wc : (Lit.int .i64 c).wf = true) (wd : (Lit.int .i64 d).wf = true) :
 Calls Tryz.prog 39 #[.int .i64 a, .int .i64 b, .int .i64 c, .int .i64 d] w fun e w' => e = .returned (confV (lconfD a b c d)) ∧ Keeps [] w w' := by
 obtain ⟨p, hp⟩ : ∃ p, placeOf a 3 = p := ⟨_, rfl⟩
 obtain ⟨q, hq⟩ : ∃ q, placeOf b 4 = q := ⟨_, rfl⟩
 obtain ⟨r, hr⟩ : ∃ r, placeOf c 12 = r := ⟨_, rfl⟩
 obtain ⟨s, hs⟩ : ∃ s, placeOf d 4 = s := ⟨_, rfl⟩
 have b1 := placeOf_bd a 3 (by decide)
 have b2 := placeOf_bd b 4 (by decide)
 have b3 := placeOf_bd c 12 (by decide)
 have b4 := placeOf_bd d 4 (by decide)
 rw [hp] at b1
 rw [hq] at b2
 rw [hr] at b3
 rw [hs] at b4
 have HP := hid hp
 have HQ := hid hq
 have HR := hid hr
 have HS := hid hs
 have HPC := hid (fun wx => place_is p a 3 wx (by decide) (by decide) wa hp)
 have HQC := hid (fun wx => place_is q b 4 wx (by decide) (by decide) wb hq)
 have HRC := hid (fun wx => place_is r c 12 wx (by decide) (by decide) wc hr)
 have HSC := hid (fun wx => place_is s d 4 wx (by decide) (by decide) wd hs)
 have w1 : IntKind.i64.wrap (3 + p) = 3 + p := by rw [IntKind.wrap_i64]; omega
 have w2 : IntKind.i64.wrap (1 + r) = 1 + r := by rw [IntKind.wrap_i64]; omega
 have w3 : IntKind.i64.wrap (1 + s) = 1 + s := by rw [IntKind.wrap_i64]; omega
 have HE : Hid (lconfD a b c d = { nodes := 3 + p, clients := q, heart := 2, lo := 8, range := 40, sessions := 1 + s, snap := 1 + r, room := 200, retry := 9 }) := by
  show _ = _
  unfold lconfD
  rw [hp, hq, hr, hs]
 clear hp hq hr hs wa wb wc wd
 go_enter Tryz.func39, Tryz.ntmps39
 go_wp2_with fail
 refine (HPC.out _).mono ?_
 rintro e wz ⟨rfl, hwz⟩
 subst hwz
 go_wp2_with fail
 refine (HQC.out _).mono ?_
 rintro e wz ⟨rfl, hwz⟩
 subst hwz
 go_wp2_with fail
 refine (HSC.out _).mono ?_
 rintro e wz ⟨rfl, hwz⟩
 subst hwz
 go_wp2_with fail
 refine (HRC.out _).mono ?_
 rintro e wz ⟨rfl, hwz⟩
 subst hwz
 go_wp2_with fail
 refine bodyPost_ret (v := .agg #[.int .i64 (3 + p), .int .i64 q, .int .i64 2, .int .i64 8, .int .i64 40, .int .i64 (1 + s), .int .i64 (1 + r), .int .i64 200, .int .i64 9]) (by simp [results, Tryz.results39, go_sem]) rfl ⟨?_, (Keeps.refl [] w).alloc _⟩
 rw [HE.out]
 rfl
def conf23D (snap : Int) : ConfD := lconfD 0 2 snap 3
theorem conf23_any (snap : Int) (w : World) (ws : (Lit.int .i64 snap).wf = true) : Calls Tryz.prog 15 #[.int .i64 snap] w fun e w' => e = .returned (confV (conf23D snap)) ∧ Keeps [] w w' := by
 obtain ⟨⟨e1, e2, e3, e4, e5, e6, e7, e8, e9⟩, he⟩ : ∃ c, conf23D snap = c := ⟨_, rfl⟩
 have HC := hid (fun wx => lConf_all 0 2 snap 3 wx (by decide) (by decide) ws (by decide))
 have he' : lconfD 0 2 snap 3 = ⟨e1, e2, e3, e4, e5, e6, e7, e8, e9⟩ := he
 rw [he'] at HC
 rw [he]
 unfold confV at HC ⊢
 clear he he' ws
 go_enter Tryz.func15, Tryz.ntmps15
 go_wp2_with fail
 refine (HC.out _).mono ?_
 rintro e w1 ⟨rfl, k1⟩
 have B0 : w1.heap[w.heap.size]? = some (.cells #[.int .i64 0, .int .i64 0, .int .i64 0, .int .i64 0, .int .i64 0, .int .i64 0, .int .i64 0, .int .i64 0, .int .i64 0] 47 (0, 0)) := (k1.block w.heap.size (by simp) (by simp)).trans (heap_alloc_new w _)
 obtain ⟨⟨c0, c1, c2, c3, c4, c5, c6, c7, c8⟩, f1⟩ := blk9 B0
 have K1 := hid (((Keeps.refl [] w).alloc _).trans k1 (fun _ _ h => h))
 have h9 := (heap_setCell_same _ _ 8 _ _ (.int .i64 e9) (heap_setCell_same _ _ 7 _ _ (.int .i64 e8) (heap_setCell_same _ _ 6 _ _ (.int .i64 e7) (heap_setCell_same _ _ 5 _ _ (.int .i64 e6) (heap_setCell_same _ _ 4 _ _ (.int .i64 e5) (heap_setCell_same _ _ 3 _ _ (.int .i64 e4) (heap_setCell_same _ _ 2 _ _ (.int .i64 e3) (heap_setCell_same _ _ 1 _ _ (.int .i64 e2) (heap_setCell_same _ _ 0 _ _ (.int .i64 e1) B0)))))))))
 simp only [List.setIfInBounds_toArray, List.set_cons_zero, List.set_cons_succ] at h9
 have HB9 := hid h9
 clear B0 h9 k1
 go_wp2_with fail
 refine bodyPost_ret (v := .agg #[.int .i64 e1, .int .i64 e2, .int .i64 e3, .int .i64 e4, .int .i64 e5, .int .i64 e6, .int .i64 e7, .int .i64 e8, .int .i64 e9]) (results_cell_row rfl _ _ w.heap.size 47 _ (0, 0) _ rfl HB9.out Tryz.underlying47 rfl (by kernel_rfl)) rfl ⟨rfl, ?_⟩
 have K2 := K1.out
 exact Keeps.K
theorem tells1_any (w : World) (P : Nat → Prop) (a : Option Addr) (q fb mb : Nat) (x : MsgD) (f c who : Int) (hl : ListAt msgL w P (.slice a 1 q) [x]) (hf : w.cell? ⟨fb, 0, none⟩ = some (.int .i64 f)) (hc : w.cell? ⟨mb, 6, none⟩ = some (.int .i64 c))
 (e1 : x.kind = 7) (e2 : x.«to» = f) (e3 : x.frm = 2) (e4 : x.ok = false) (e5 : x.a = who) (e6 : x.c = c) :
 Calls Tryz.prog 6 #[.slice a 1 q, .int .i64 who, .pointer (some ⟨fb, 0, none⟩), .pointer (some ⟨mb, 0, none⟩)] w fun e w' => e = .returned (.bool true) ∧ Keeps [] w w' := by
 obtain ⟨g, off, q', hv, -, -, hg, -⟩ := hl.addr (by simp)
 simp only [Value.slice.injEq] at hv
 obtain ⟨rfl, -, rfl⟩ := hv
 obtain ⟨cs, ⟨ev, dv, rfl, -⟩, hcs⟩ := hl.get (i := 0) rfl
 rw [e1, e2, e3, e4, e5, e6] at hcs
 have y0 : w.cell? ⟨g, off, none⟩ = some (.int .i64 7) := by simpa using hcs 0 _ rfl
 have y1 : w.cell? ⟨g, off + 1, none⟩ = some (.int .i64 2) := by simpa using hcs 1 _ rfl
 have y2 : w.cell? ⟨g, off + 2, none⟩ = some (.int .i64 f) := by simpa using hcs 2 _ rfl
 have y4 : w.cell? ⟨g, off + 4, none⟩ = some (.int .i64 who) := by simpa using hcs 4 _ rfl
 have y6 : w.cell? ⟨g, off + 6, none⟩ = some (.int .i64 c) := by simpa using hcs 6 _ rfl
 have y7 : w.cell? ⟨g, off + 7, none⟩ = some (.bool false) := by simpa using hcs 7 _ rfl
 clear hcs hl e1 e2 e3 e4 e5 e6
 go_enter Tryz.func6, Tryz.ntmps6
 go_wp2_with fail
 go_quiet (fail)
 go_wp2_with fail
 go_ret
 exact ⟨rfl, by exact Keeps.K⟩
end Go.Proofs.YtgjiahilbmeaeaaGreatDoor