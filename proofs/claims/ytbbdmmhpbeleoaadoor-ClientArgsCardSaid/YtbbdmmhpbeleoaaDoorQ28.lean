/- Joined of ClI, CoreR, CoreN, CoreO, CoreS, CoreT, CoreU, PlayB, ClJ. -/
import Derived.Test.YtbbdmmhpbeleoaaDoorQ27
import Derived.Test.YtbbdmmhpbeleoaaDoorQ22
import Derived.Test.YtbbdmmhpbeleoaaDoorQ23
import Derived.Test.YtbbdmmhpbeleoaaDoorQ01

set_option linter.unusedSimpArgs false
set_option linter.unusedVariables false

/- A new client; the laws' own words: conf, read, told. -/
namespace Go.Proofs.YtbbdmmhpbeleoaaDoor
open Go Go.RowKit

theorem clHear_any (w : World) (n : Nat) (Q : Nat → Prop) (c : CliD) (dv fv : Value) (m : MsgD) (ea da : Option Addr) (el ec dc : Nat) (hT : Tabs w) (h : CliAt w n Q c dv fv) (hok : HearOk c) (hr : Reads w 1 (.slice da m.data.length dc) m.data.length (u8s m.data)) (hb : m.data.length ≤ 140737488355328) (hQ : ∀ b, w.heap.size ≤ b → Q b) :
    Calls Tryd.prog 32 #[.pointer (some ⟨n, 0, none⟩), msgV m (.slice ea el ec) (.slice da m.data.length dc)] w (ToldPost n Q (chearD c m) w) := by
  rcases hd : deafD c m with _ | _
  · exact clHear_ears w n Q c dv fv m ea da el ec dc hT h hok hr hb hQ hd
  · exact clHear_deaf w n Q c dv fv m ea da el ec dc h hd

def conf24D (nodes retry : Int) : ConfD := ⟨3 + placeOf nodes 3, 3, 2, 8, 40, 3, 6, 200, 1 + placeOf retry 6⟩
def confVal (c : ConfD) : Value := .agg #[.int .i64 c.nodes, .int .i64 c.clients, .int .i64 c.heart, .int .i64 c.lo, .int .i64 c.range, .int .i64 c.sessions, .int .i64 c.snap, .int .i64 c.room, .int .i64 c.retry]
def confRow (c : ConfD) : Obj := .cells #[.int .i64 c.nodes, .int .i64 c.clients, .int .i64 c.heart, .int .i64 c.lo, .int .i64 c.range, .int .i64 c.sessions, .int .i64 c.snap, .int .i64 c.room, .int .i64 c.retry] 39 (0, 0)
def cliNew (c : ConfD) (id : Int) : CliD := ⟨c, id, 1, 0, 0, 0, 0, ⟨0, 0, 0, ⟨#[]⟩, 0, ⟨0, 0, ⟨#[]⟩⟩⟩, ⟨0, 0, 0, 0, 0, 0, 0, false, [], []⟩, 0, zeroR⟩

set_option maxRecDepth 100000 in
set_option maxHeartbeats 4000000 in
theorem lConf24_any (nodes : Int) (w : World) (wn : (Lit.int .i64 nodes).wf = true) : Calls Tryd.prog 29 #[.int .i64 nodes, .int .i64 3, .int .i64 5, .int .i64 2] w fun e w' => e = .returned (confVal ⟨3 + placeOf nodes 3, 3, 2, 8, 40, 3, 6, 200, 9⟩) ∧ Keeps [] w w' := by
  have hp := placeOf_bd nodes 3 (by decide)
  obtain ⟨p, hpp⟩ : ∃ p, placeOf nodes 3 = p := ⟨_, rfl⟩
  have HP := hid hpp
  rw [hpp] at hp ⊢
  have WN := hid wn
  clear hpp wn
  obtain ⟨hp0, hp1⟩ := hp
  unfold confVal
  dsimp only
  go_enter Tryd.func29, Tryd.ntmps29
  go_wp2_with fail
  refine (place_is p nodes 3 _ (by decide) (by decide) WN.out HP.out).mono ?_
  rintro e w2 ⟨rfl, hw⟩
  rw [hw]
  clear hw
  go_wp2_with fail
  refine (place_is 3 3 4 _ (by decide) (by decide) (by decide) (by decide)).mono ?_
  rintro e w3 ⟨rfl, hw⟩
  rw [hw]
  clear hw
  go_wp2_with fail
  refine (place_is 2 2 4 _ (by decide) (by decide) (by decide) (by decide)).mono ?_
  rintro e w4 ⟨rfl, hw⟩
  rw [hw]
  clear hw
  go_wp2_with fail
  refine (place_is 5 5 12 _ (by decide) (by decide) (by decide) (by decide)).mono ?_
  rintro e w5 ⟨rfl, hw⟩
  rw [hw]
  clear hw
  go_wp2_with fail
  refine bodyPost_ret (v := .agg #[.int .i64 (3 + p), .int .i64 3, .int .i64 2, .int .i64 8, .int .i64 40, .int .i64 3, .int .i64 6, .int .i64 200, .int .i64 9]) (by simp [results, Tryd.results29, go_sem]) rfl ?_
  exact ⟨rfl, by exact Keeps.K⟩

set_option maxRecDepth 100000 in
set_option maxHeartbeats 4000000 in
theorem conf24_any (nodes retry : Int) (w : World) (wn : (Lit.int .i64 nodes).wf = true) (wr : (Lit.int .i64 retry).wf = true) : Calls Tryd.prog 11 #[.int .i64 nodes, .int .i64 retry] w fun e w' => e = .returned (confVal (conf24D nodes retry)) ∧ Keeps [] w w' := by
  have hp := placeOf_bd retry 6 (by decide)
  have hq := placeOf_bd nodes 3 (by decide)
  have HC := hid (fun w1 => lConf24_any nodes w1 wn)
  unfold confVal at HC
  unfold confVal conf24D
  obtain ⟨p, hpp⟩ : ∃ p, placeOf retry 6 = p := ⟨_, rfl⟩
  obtain ⟨q, hqq⟩ : ∃ q, placeOf nodes 3 = q := ⟨_, rfl⟩
  have HP := hid hpp
  rw [hpp] at hp ⊢
  rw [hqq] at hq HC ⊢
  have WR := hid wr
  clear hpp hqq wn wr
  obtain ⟨hp0, hp1⟩ := hp
  obtain ⟨hq0, hq1⟩ := hq
  dsimp only at HC ⊢
  go_enter Tryd.func11, Tryd.ntmps11
  go_wp2_with fail
  refine (HC.out _).mono ?_
  rintro e w1 ⟨rfl, hk⟩
  have hres : w1.heap[w.heap.size]? = some (.cells #[.int .i64 0, .int .i64 0, .int .i64 0, .int .i64 0, .int .i64 0, .int .i64 0, .int .i64 0, .int .i64 0, .int .i64 0] 39 (0, 0)) := (hk.block _ (by simp) (by simp)).trans (heap_alloc_new w _)
  have HRES := hid hres
  have K1 : Hid (Keeps [] w w1) := Keeps.trans (G := []) (by exact Keeps.K) hk (fun _ _ h => h)
  have hlt1 : w.heap.size < w1.heap.size := (Array.getElem?_eq_some_iff.1 hres).1
  have r0 : w1.cell? ⟨w.heap.size, 0, none⟩ = some (.int .i64 0) := cell_of_block hres 0
  have r1 : w1.cell? ⟨w.heap.size, 1, none⟩ = some (.int .i64 0) := cell_of_block hres 1
  have r2 : w1.cell? ⟨w.heap.size, 2, none⟩ = some (.int .i64 0) := cell_of_block hres 2
  have r3 : w1.cell? ⟨w.heap.size, 3, none⟩ = some (.int .i64 0) := cell_of_block hres 3
  have r4 : w1.cell? ⟨w.heap.size, 4, none⟩ = some (.int .i64 0) := cell_of_block hres 4
  have r5 : w1.cell? ⟨w.heap.size, 5, none⟩ = some (.int .i64 0) := cell_of_block hres 5
  have r6 : w1.cell? ⟨w.heap.size, 6, none⟩ = some (.int .i64 0) := cell_of_block hres 6
  have r7 : w1.cell? ⟨w.heap.size, 7, none⟩ = some (.int .i64 0) := cell_of_block hres 7
  have r8 : w1.cell? ⟨w.heap.size, 8, none⟩ = some (.int .i64 0) := cell_of_block hres 8
  have rf : ∀ i, w1.frozen? ⟨w.heap.size, i, none⟩ = false := fun i => frozen_of_row w1 _ i _ _ hres
  clear hk hres
  go_wp2_with fail
  refine (place_is p retry 6 _ (by decide) (by decide) WR.out HP.out).mono ?_
  rintro e w2 ⟨rfl, hw⟩
  rw [hw]
  clear hw
  go_wp2_with fail
  have HF := (heap_setCell_same _ _ 8 _ _ (.int .i64 (1 + p)) (heap_setCell_same _ _ 7 _ _ (.int .i64 200) (heap_setCell_same _ _ 6 _ _ (.int .i64 6) (heap_setCell_same _ _ 5 _ _ (.int .i64 3) (heap_setCell_same _ _ 4 _ _ (.int .i64 40) (heap_setCell_same _ _ 3 _ _ (.int .i64 8) (heap_setCell_same _ _ 2 _ _ (.int .i64 2) (heap_setCell_same _ _ 1 _ _ (.int .i64 3) (heap_setCell_same _ _ 0 _ _ (.int .i64 (3 + q)) HRES.out)))))))))
  simp only [List.setIfInBounds_toArray, List.set_cons_zero, List.set_cons_succ] at HF
  have HF2 := (Keeps.block (F := []) (w := (((((((((w1.setCell ⟨w.heap.size, 0, none⟩ (.int .i64 (3 + q))).setCell ⟨w.heap.size, 1, none⟩ (.int .i64 3)).setCell ⟨w.heap.size, 2, none⟩ (.int .i64 2)).setCell ⟨w.heap.size, 3, none⟩ (.int .i64 8)).setCell ⟨w.heap.size, 4, none⟩ (.int .i64 40)).setCell ⟨w.heap.size, 5, none⟩ (.int .i64 3)).setCell ⟨w.heap.size, 6, none⟩ (.int .i64 6)).setCell ⟨w.heap.size, 7, none⟩ (.int .i64 200)).setCell ⟨w.heap.size, 8, none⟩ (.int .i64 (1 + p)))) ((Keeps.refl [] (((((((((w1.setCell ⟨w.heap.size, 0, none⟩ (.int .i64 (3 + q))).setCell ⟨w.heap.size, 1, none⟩ (.int .i64 3)).setCell ⟨w.heap.size, 2, none⟩ (.int .i64 2)).setCell ⟨w.heap.size, 3, none⟩ (.int .i64 8)).setCell ⟨w.heap.size, 4, none⟩ (.int .i64 40)).setCell ⟨w.heap.size, 5, none⟩ (.int .i64 3)).setCell ⟨w.heap.size, 6, none⟩ (.int .i64 6)).setCell ⟨w.heap.size, 7, none⟩ (.int .i64 200)).setCell ⟨w.heap.size, 8, none⟩ (.int .i64 (1 + p)))).alloc (.cells #[.int .i64 (3 + q), .int .i64 3, .int .i64 2, .int .i64 8, .int .i64 40, .int .i64 3, .int .i64 6, .int .i64 200, .int .i64 (1 + p)] 39)) w.heap.size (by simp; omega) (by simp)).trans HF
  refine bodyPost_ret (v := .agg #[.int .i64 (3 + q), .int .i64 3, .int .i64 2, .int .i64 8, .int .i64 40, .int .i64 3, .int .i64 6, .int .i64 200, .int .i64 (1 + p)]) (results_cell_row rfl _ _ w.heap.size 39 _ (0, 0) _ rfl HF2 Tryd.underlying39 rfl (by kernel_rfl)) rfl ?_
  exact ⟨rfl, K1.out.trans (G := [w.heap.size]) (by exact Keeps.K) (fun x hx hx' => by simp at hx'; omega)⟩

set_option maxRecDepth 100000 in
theorem read24_any (s : ByteArray) (w : World) : Calls Tryd.prog 31 #[.string s] w fun e w' => e = .returned (cmdV ⟨4, 0, 0, s, 0, ⟨0, 0, ⟨#[]⟩⟩⟩) ∧ Keeps [] w w' := by
  unfold cmdV
  go_enter Tryd.func31, Tryd.ntmps31
  go_wp2_with fail
  refine bodyPost_ret (v := .agg #[.int .i64 4, .int .i64 0, .int .i64 0, .string s, .int .i64 0, .int .i64 0, .int .i64 0, .string ⟨#[]⟩]) (by simp [results, Tryd.results31, go_sem]) rfl ?_
  exact ⟨rfl, by exact Keeps.K⟩

/-- A message in new memory, its entries none. -/
def ToldMsg (m : MsgD) (w : World) (e : Ending) (w' : World) : Prop :=
  ∃ da dc, e = .returned (msgV m (.slice none 0 0) (.slice da m.data.length dc)) ∧ BytesAt w' (fun b => w.heap.size ≤ b) (.slice da m.data.length dc) m.data ∧ Keeps [] w w'
set_option maxRecDepth 100000 in
set_option maxHeartbeats 4000000 in
theorem told24_any (frm tt number : Int) (r : ReplyD) (hw : ReplyW r) (w : World) : Calls Tryd.prog 33 #[.int .i64 frm, .int .i64 tt, .int .i64 number, replyV r] w (ToldMsg ⟨7, frm, tt, 0, 0, 0, number, true, [], putR r⟩ w) := by
  have HW := hid (fun w1 => r14PutR_any r hw w1)
  obtain ⟨PR, hPR⟩ : ∃ PR, putR r = PR := ⟨_, rfl⟩
  rw [hPR] at HW ⊢
  obtain ⟨er, nn, rk, rn, rs⟩ := r
  unfold replyV at HW ⊢
  dsimp only at HW ⊢
  clear hPR hw
  go_enter Tryd.func33, Tryd.ntmps33
  go_wp2_with fail
  refine (HW.out _).mono ?_
  rintro e w1 ⟨a1, q1, rfl, h1, hk⟩
  rw [List.nil_append] at h1 ⊢
  have hres : w1.heap[w.heap.size + 1]? = some (.cells #[.int .i64 0, .int .i64 0, .int .i64 0, .int .i64 0, .int .i64 0, .int .i64 0, .int .i64 0, .bool false, .slice none 0 0, .slice none 0 0] 46 (0, 0)) := (hk.block _ (by simp) (by simp)).trans (new2nd w _ _)
  obtain ⟨⟨y0, y1, y2, y3, y4, y5, y6, y7, y8, y9⟩, fy⟩ := blk10 hres
  have HRES := hid hres
  have D1 : Hid (BytesAt w1 (fun b => w.heap.size + 2 ≤ b) (.slice a1 PR.length q1) PR) := BytesAt.ofOwn h1 rfl (fun b h _ => by simpa using h)
  have K1 : Hid (Keeps [] w w1) := Keeps.trans (G := []) (by exact Keeps.K) hk (fun _ _ h => h)
  clear hk h1 hres
  go_wp2_with fail
  have HF := heap10 (y0 := .int .i64 7) (y1 := .int .i64 frm) (y2 := .int .i64 tt) (y3 := .int .i64 0) (y4 := .int .i64 0) (y5 := .int .i64 0) (y6 := .int .i64 number) (y7 := .bool true) (y8 := .slice none 0 0) (y9 := .slice a1 PR.length q1) HRES.out
  have k5 : Keeps [w.heap.size + 1] w1 ((((((((((w1.setCell ⟨w.heap.size + 1, 0, none⟩ (.int .i64 7)).setCell ⟨w.heap.size + 1, 1, none⟩ (.int .i64 frm)).setCell ⟨w.heap.size + 1, 2, none⟩ (.int .i64 tt)).setCell ⟨w.heap.size + 1, 3, none⟩ (.int .i64 0)).setCell ⟨w.heap.size + 1, 4, none⟩ (.int .i64 0)).setCell ⟨w.heap.size + 1, 5, none⟩ (.int .i64 0)).setCell ⟨w.heap.size + 1, 6, none⟩ (.int .i64 number)).setCell ⟨w.heap.size + 1, 7, none⟩ (.bool true)).setCell ⟨w.heap.size + 1, 8, none⟩ (.slice none 0 0)).setCell ⟨w.heap.size + 1, 9, none⟩ (.slice a1 PR.length q1)) := by exact Keeps.K
  refine bodyPost_ret (v := .agg #[.int .i64 7, .int .i64 frm, .int .i64 tt, .int .i64 0, .int .i64 0, .int .i64 0, .int .i64 number, .bool true, .slice none 0 0, .slice a1 PR.length q1]) (results_cell_row rfl _ _ (w.heap.size + 1) 46 _ (0, 0) _ rfl HF Tryd.underlying46 rfl (by kernel_rfl)) rfl ⟨a1, q1, rfl, ?_, ?_⟩
  · exact (D1.out.keep k5 (fun b hb hb' => by simp at hb'; omega)).mono (fun b _ hb => by omega)
  · exact K1.out.trans k5 (fun b hb hb' => by simp at hb'; omega)

/-- A client is made, or refused. -/
def newOk (c : ConfD) (id : Int) : Prop := 101 ≤ id ∧ id - 100 ≤ c.clients ∧ 3 ≤ c.nodes ∧ c.nodes ≤ 7 ∧ 1 ≤ c.retry
set_option maxRecDepth 100000 in
set_option maxHeartbeats 4000000 in
theorem clNew_yes (c : ConfD) (id : Int) (Q : Nat → Prop) (w : World) (h : newOk c id) (hi : id ≤ 1000000) (hQ : ¬ Q (w.heap.size + 1)) :
    Calls Tryd.prog 10 #[confVal c, .int .i64 id] w fun e w' => e = .returned (.tuple #[.pointer (some ⟨w.heap.size + 1, 0, none⟩), .int .i64 0]) ∧ CliAt w' (w.heap.size + 1) Q (cliNew c id) (.slice none 0 0) .nilFunc ∧ Keeps [] w w' := by
  obtain ⟨cn, cc, ch, cl, cr, cs, cp, co, ct⟩ := c
  obtain ⟨h1, h2, h3, h4, h5⟩ := h
  dsimp only at h2 h3 h4 h5
  have q1 : (id < 101) = False := eq_false (by omega)
  have q2 : (cc < id - 100) = False := eq_false (by omega)
  have q3 : (cn < 3) = False := eq_false (by omega)
  have q4 : (7 < cn) = False := eq_false (by omega)
  have q5 : (ct < 1) = False := eq_false (by omega)
  have hw : IntKind.i64.wrap (id - 100) = id - 100 := by rw [IntKind.wrap_i64]; omega
  have HQ := hid hQ
  unfold confVal
  dsimp only
  clear hQ h1 h2 h3 h4 h5
  go_enter Tryd.func10, Tryd.ntmps10
  go_wp2_with fail
  refine bodyPost_ret (v := .tuple #[.pointer (some ⟨w.heap.size + 1, 0, none⟩), .int .i64 0]) (by simp [results, Tryd.results10, go_sem]) rfl ?_
  refine ⟨rfl, ⟨?_, BytesAt.nil _ _ _ _, rfl, .inl ⟨rfl, rfl⟩, HQ.out⟩, by exact Keeps.K⟩
  have e := new2nd w (.cells #[.int .i64 cn, .int .i64 cc, .int .i64 ch, .int .i64 cl, .int .i64 cr, .int .i64 cs, .int .i64 cp, .int .i64 co, .int .i64 ct] 39) (.cells (cliCells (cliNew ⟨cn, cc, ch, cl, cr, cs, cp, co, ct⟩ id) (.slice none 0 0) .nilFunc) 63)
  exact e

end Go.Proofs.YtbbdmmhpbeleoaaDoor

/- The document's core in memory; its smallest methods. -/
namespace Go.Proofs.YtbbdmmhpbeleoaaDoor
open Go Go.RowKit

def refTail (c : CoreD) : List Value := bools c.votes ++ (ints c.next ++ (ints c.matc ++ [.bool c.hard, .bool c.tsnap, .int .i64 c.frm]))
def refCells (c : CoreD) (lv sv : Value) : List Value :=
  .int .i64 c.conf.nodes :: .int .i64 c.conf.clients :: .int .i64 c.conf.heart :: .int .i64 c.conf.lo :: .int .i64 c.conf.range :: .int .i64 c.conf.sessions :: .int .i64 c.conf.snap :: .int .i64 c.conf.room :: .int .i64 c.conf.retry ::
  .int .i64 c.id :: .int .i64 c.term :: .int .i64 c.vote :: .int .i64 c.role :: .int .i64 c.leader :: .int .i64 c.commit :: .int .i64 c.base :: .int .i64 c.baseTerm :: sv :: lv :: .int .i64 c.patience :: .int .i64 c.draw :: refTail c

/-- An entry's cells in a list that may be read. -/
theorem ListAt.ent {w : World} {P : Nat → Prop} {lv : Value} {l : List Ent} (h : ListAt entL w P lv l) {j : Nat} {e : Ent} (he : l[j]? = some e) : ∃ g off k av cv, lv = .slice (some ⟨g, off, none⟩) l.length k ∧ l.length ≤ k ∧ k ≤ maxLen ∧ w.cell? ⟨g, off + j * 3, none⟩ = some (.int .i64 e.term) ∧ w.cell? ⟨g, off + j * 3 + 1, none⟩ = some (.bool e.cmd) ∧ w.cell? ⟨g, off + j * 3 + 2, none⟩ = some (.slice av e.data.length cv) ∧ BytesAt w P (.slice av e.data.length cv) e.data := by
  obtain ⟨g, off, k, rfl, h1, h2, _, _⟩ := h.addr (fun hn => by rw [hn] at he; simp at he)
  obtain ⟨cs, ⟨v, rfl, hb⟩, hc⟩ := h.get he
  obtain ⟨av, cv, rfl⟩ := hb.form
  exact ⟨g, off, k, av, cv, rfl, h1, h2, hc 0 _ rfl, hc 1 _ rfl, hc 2 _ rfl, hb⟩

section
end

end Go.Proofs.YtbbdmmhpbeleoaaDoor

/- New of a core and of the document's core. (Printed by gen_new.py.) -/
namespace Go.Proofs.YtbbdmmhpbeleoaaDoor
open Go Go.RowKit

def NewNo (w : World) (e : Ending) (w' : World) : Prop := e = .returned (.tuple #[.pointer none, .int .i64 1]) ∧ Keeps [] w w'

end Go.Proofs.YtbbdmmhpbeleoaaDoor

/- New of a core, the good way. (Printed by gen_new.py.) -/
namespace Go.Proofs.YtbbdmmhpbeleoaaDoor
open Go Go.RowKit

theorem mayNew_take {cf : ConfD} {id term vote base baseTerm : Int} {l l' : List Ent} (h : headD cf id term vote base baseTerm l.length = true) (hl : l'.length ≤ l.length) (ha : ∀ e ∈ l', inD e.term 1 1099511627776 = true) : mayNewD cf id term vote base baseTerm l' = true := by
  rw [mayNew_head]
  simp only [Bool.and_eq_true, List.all_eq_true]
  refine ⟨?_, ha⟩
  simp only [headD, Bool.and_eq_true, decide_eq_true_eq] at h ⊢
  exact ⟨h.1, by omega⟩

end Go.Proofs.YtbbdmmhpbeleoaaDoor

/- From and New of the document's core. -/
namespace Go.Proofs.YtbbdmmhpbeleoaaDoor
open Go Go.RowKit

def RFromPost (l : List Ent) (P : Nat → Prop) (w : World) (e : Ending) (w' : World) : Prop := ∃ a k, e = .returned (.slice a l.length k) ∧ ListAt entL w' (fun b => P b ∨ w.heap.size ≤ b) (.slice a l.length k) l ∧ Keeps [] w w'
theorem RFromPost.nil {l : List Ent} {P : Nat → Prop} {w w' : World} (hl : l = []) (k : Keeps [] w w') : RFromPost l P w (.returned (.slice none 0 0)) w' := by
  subst hl
  exact ⟨none, 0, rfl, ListAt.nil _ _ _ _, k⟩
/-- A copy of a list: a row of its own, the elements' blocks the same. -/
theorem ListAt.copied {w w1 w' : World} {P : Nat → Prop} {v : Value} {l : List Ent} {css : List (List Value)} {n : Nat} (h : ElemsAt entL w P css l) (hn : n = l.length) (ho : w'.ownsRow w1.heap.size 172 3 v n css.flatten) (hz : w.heap.size ≤ w1.heap.size) (k : Keeps [] w w') : ListAt entL w' (fun b => P b ∨ w.heap.size ≤ b) v l := by
  subst hn
  exact ⟨css, (h.keep k (fun _ _ h => by cases h)).mono (fun b _ h => .inl h), Reads.ofOwn ho, fun _ b hb => .inr (Nat.le_trans hz (ownB_ge ho b hb).1)⟩

section
end

end Go.Proofs.YtbbdmmhpbeleoaaDoor

/- New of the document's core, the good way; both, whole. (Printed by gen_new.py.) -/
namespace Go.Proofs.YtbbdmmhpbeleoaaDoor
open Go Go.RowKit

end Go.Proofs.YtbbdmmhpbeleoaaDoor

/- SameEntry, SameEntries: of like entries. -/
namespace Go.Proofs.YtbbdmmhpbeleoaaDoor
open Go Go.RowKit

theorem conv_str {w : World} {v : Value} {bs : List UInt8} (hr : Reads w 1 v bs.length (u8s bs)) : (convert 29 9 v).run Tryd.prog w = .ok (.string (str bs)) w :=
  run_convert_str _ _ _ 5 _ bs Tryd.underlying29 Tryd.underlying5 Tryd.underlying9 hr

end Go.Proofs.YtbbdmmhpbeleoaaDoor

/- CorePlays: SameMsgs of like messages. -/
namespace Go.Proofs.YtbbdmmhpbeleoaaDoor
open Go Go.RowKit

theorem list_max {α : Type} {L : Lay α} {w : World} {P : Nat → Prop} {a : Option Addr} {c : Nat} {l : List α} (h : ListAt L w P (.slice a l.length c) l) : l.length ≤ 9223372036854775807 := by
  by_cases e : l = []
  · subst e; exact Nat.zero_le _
  · obtain ⟨g, off, cg, ha, hcg, hcm, _, _⟩ := h.addr e
    unfold maxLen at hcm
    omega

/-- A message's cells in a list that may be read. -/
theorem ListAt.msg {w : World} {P : Nat → Prop} {lv : Value} {l : List MsgD} (h : ListAt msgL w P lv l) {j : Nat} {m : MsgD} (he : l[j]? = some m) : ∃ g off k a1 c1 d1 e1, lv = .slice (some ⟨g, off, none⟩) l.length k ∧
    w.cell? ⟨g, off + j * 10, none⟩ = some (.int .i64 m.kind) ∧ w.cell? ⟨g, off + j * 10 + 1, none⟩ = some (.int .i64 m.frm) ∧ w.cell? ⟨g, off + j * 10 + 2, none⟩ = some (.int .i64 m.«to») ∧ w.cell? ⟨g, off + j * 10 + 3, none⟩ = some (.int .i64 m.term) ∧ w.cell? ⟨g, off + j * 10 + 4, none⟩ = some (.int .i64 m.a) ∧ w.cell? ⟨g, off + j * 10 + 5, none⟩ = some (.int .i64 m.b) ∧ w.cell? ⟨g, off + j * 10 + 6, none⟩ = some (.int .i64 m.c) ∧ w.cell? ⟨g, off + j * 10 + 7, none⟩ = some (.bool m.ok) ∧ w.cell? ⟨g, off + j * 10 + 8, none⟩ = some (.slice a1 m.entries.length c1) ∧ w.cell? ⟨g, off + j * 10 + 9, none⟩ = some (.slice d1 m.data.length e1) ∧
    ListAt entL w P (.slice a1 m.entries.length c1) m.entries ∧ BytesAt w P (.slice d1 m.data.length e1) m.data := by
  obtain ⟨g, off, k, rfl, h1, h2, _, _⟩ := h.addr (fun hn => by rw [hn] at he; simp at he)
  obtain ⟨cs, ⟨ev, dv, rfl, hl, hb⟩, hc⟩ := h.get he
  obtain ⟨a1, c1, rfl⟩ := hl.form
  obtain ⟨d1, e1, rfl⟩ := hb.form
  exact ⟨g, off, k, a1, c1, d1, e1, rfl, hc 0 _ rfl, hc 1 _ rfl, hc 2 _ rfl, hc 3 _ rfl, hc 4 _ rfl, hc 5 _ rfl, hc 6 _ rfl, hc 7 _ rfl, hc 8 _ rfl, hc 9 _ rfl, hl, hb⟩

end Go.Proofs.YtbbdmmhpbeleoaaDoor

/- The laws' own example: awake. -/
namespace Go.Proofs.YtbbdmmhpbeleoaaDoor
open Go Go.RowKit

/-- A read of a field. -/
def readC (s : ByteArray) : CmdD := ⟨4, 0, 0, s, 0, ⟨0, 0, ⟨#[]⟩⟩⟩
def readC1 (s : ByteArray) : CmdD := ⟨4, 1, 1, s, 0, ⟨0, 0, ⟨#[]⟩⟩⟩
theorem name_a : nameD ⟨#[97]⟩ = true := by kernel_rfl
theorem name_b : nameD ⟨#[98]⟩ = true := by kernel_rfl
theorem check_read {s : ByteArray} (h : nameD s = true) : checkC (readC1 s) = true := by
  simp [checkC, readC1, h, countsD, noneV, emptyB]
theorem I64_0 : I64 0 := by constructor <;> decide
theorem I64_1 : I64 1 := by constructor <;> decide
theorem I64_4 : I64 4 := by constructor <;> decide
theorem I64_5 : I64 5 := by constructor <;> decide
theorem readI (s : ByteArray) : CmdI (readC s) := ⟨I64_4, I64_0, I64_0, I64_0, I64_0, I64_0⟩
theorem readI1 (s : ByteArray) : CmdI (readC1 s) := ⟨I64_4, I64_1, I64_1, I64_0, I64_0, I64_0⟩
theorem read_w {s : ByteArray} (h : nameD s = true) : CmdW (readC1 s) := checkC_w (check_read h) (readI1 s)
/-- A call that may be, of one who waits for nothing. -/
theorem call_read (c : CliD) {s : ByteArray} (hs : nameD s = true) (hd : c.does = 0) (h1 : c.seq < 1099511627775) (h2 : c.request < 1099511627775) :
    callD c (readC s) = ((cAskD { c with call := readC1 s }).1, (cAskD { c with call := readC1 s }).2, 0) := by
  unfold callD
  rw [if_neg (by simp [hd]), if_neg, if_neg (by omega)]
  · rfl
  · rintro (h | h)
    · exact absurd (show (4 : Int) = 1 from h) (by decide)
    · rw [show checkC { readC s with session := 1, seq := 1 } = true from check_read hs] at h
      cases h
/-- An answer that opens a session. -/
theorem hear_open (c : CliD) (m : MsgD) (r : ReplyD) (hd : deafD c m = false) (ho : m.ok = true) (hm : m.data = putR r) (hr : checkR r = true) (hk : I64 r.value.kind) (hn : I64 r.value.n) (h1 : c.does = 1) (he : r.err = 0) (hp : 1 ≤ r.n) :
    chearD c m = ((cAskD { c with session := r.n, seq := 0 }).1, (cAskD { c with session := r.n, seq := 0 }).2, false) := by
  unfold chearD
  rw [if_neg (by rw [hd]; decide), if_neg (by rw [ho]; decide), hm, getR_put r hr hk hn, if_neg (by simp), if_pos h1]
  exact if_neg (by dsimp only; rintro (h | h); exact h he; omega)
/-- An answer that ends a call. -/
theorem hear_over (c : CliD) (m : MsgD) (r : ReplyD) (hd : deafD c m = false) (ho : m.ok = true) (hm : m.data = putR r) (hr : checkR r = true) (hk : I64 r.value.kind) (hn : I64 r.value.n) (h1 : c.does = 2) :
    chearD c m = overD c r := by
  unfold chearD
  rw [if_neg (by rw [hd]; decide), if_neg (by rw [ho]; decide), hm, getR_put r hr hk hn, if_neg (by simp), if_neg (by rw [h1]; decide)]
def confA : ConfD := ⟨3, 3, 2, 8, 40, 3, 6, 200, 6⟩
theorem confA_is : conf24D 0 5 = confA := by kernel_rfl
theorem ask_none (c : CliD) (h : ¬ 0 < c.session) : cAskD c = ({ c with node := c.node, waited := 0, does := 1, request := c.request + 1, last := ⟨6, c.id, 0, 0, 0, 0, c.request + 1, false, [], [2]⟩ }, [⟨6, c.id, c.node, 0, 0, 0, c.request + 1, false, [], [2]⟩]) := by
  unfold cAskD againD cAskedC cAskC
  simp [h, put2]
theorem ask_some (c : CliD) (h : 0 < c.session) : cAskD c = ({ c with node := c.node, waited := 0, seq := c.seq + 1, does := 2, request := c.request + 1, last := ⟨6, c.id, 0, 0, 0, 0, c.request + 1, false, [], putC { c.call with session := c.session, seq := c.seq + 1 }⟩ }, [⟨6, c.id, c.node, 0, 0, 0, c.request + 1, false, [], putC { c.call with session := c.session, seq := c.seq + 1 }⟩]) := by
  unfold cAskD againD cAskedC cAskC
  simp [h]

def c1A : CliD := ⟨confA, 101, 1, 0, 0, 1, 0, readC1 ⟨#[97]⟩, ⟨6, 101, 0, 0, 0, 0, 1, false, [], [2]⟩, 1, zeroR⟩
def m1A : MsgD := ⟨6, 101, 1, 0, 0, 0, 1, false, [], [2]⟩
theorem call_A : callD (cliNew confA 101) (readC ⟨#[97]⟩) = (c1A, [m1A], 0) := by
  rw [call_read _ name_a rfl (by decide) (by decide), ask_none _ (by decide)]
  rfl
def tA : MsgD := ⟨7, 1, 101, 0, 0, 0, 1, true, [], putR ⟨0, 5, ⟨0, 0, ⟨#[]⟩⟩⟩⟩
def x2A : CmdD := ⟨4, 5, 1, ⟨#[97]⟩, 0, ⟨0, 0, ⟨#[]⟩⟩⟩
def c2A : CliD := ⟨confA, 101, 1, 5, 1, 2, 0, readC1 ⟨#[97]⟩, ⟨6, 101, 0, 0, 0, 0, 2, false, [], putC x2A⟩, 2, zeroR⟩
def m2A : MsgD := ⟨6, 101, 1, 0, 0, 0, 2, false, [], putC x2A⟩
theorem hear_A : chearD c1A tA = (c2A, [m2A], false) := by
  rw [hear_open c1A tA ⟨0, 5, ⟨0, 0, ⟨#[]⟩⟩⟩ (by decide +kernel) rfl rfl (by decide +kernel) I64_0 I64_0 rfl rfl (by decide), ask_some _ (by decide)]
  rfl

theorem replyA_w : ReplyW ⟨0, 5, ⟨0, 0, ⟨#[]⟩⟩⟩ := ⟨I64_0, I64_5, I64_0, I64_0, by show (0 : Nat) ≤ _; decide⟩

set_option maxRecDepth 100000 in
set_option maxHeartbeats 16000000 in
theorem awake24_any (w : World) (hT : Tabs w) (hE : Errs w) : Calls Tryd.prog 12 #[] w fun e w' => e = .returned (.bool true) ∧ Keeps [] w w' := by
  have HT := hid hT
  have HE := hid hE
  clear hT hE
  go_enter Tryd.func12, Tryd.ntmps12
  go_wp2_with fail
  refine (conf24_any 0 5 w (by decide) (by decide)).mono ?_
  rintro e w1 ⟨rfl, hk⟩
  have K1 := hid hk
  clear hk
  rw [confA_is]
  have HQ := hid (fun (b : Nat) (h : w1.heap.size + 2 ≤ b) => h)
  go_wp2_with fail
  refine (clNew_yes confA 101 (fun b => w1.heap.size + 2 ≤ b) w1 ⟨by decide, by decide, by decide, by decide, by decide⟩ (by decide) (by omega)).mono ?_
  rintro e w2 ⟨rfl, h2, hk⟩
  have K2 : Hid (Keeps [] w w2) := K1.out.trans hk (fun _ _ h => h)
  have hn := h2.lt
  have H2 := hid h2
  obtain ⟨n, hnn⟩ : ∃ n, w1.heap.size + 1 = n := ⟨_, rfl⟩
  rw [hnn] at H2 hn ⊢
  have HNN := hid hnn
  have hwn : w.heap.size ≤ n := by have := K1.out.size; omega
  clear hk h2 hnn
  go_wp2_with fail
  refine (read24_any ⟨#[97]⟩ _).mono ?_
  rintro e w3 ⟨rfl, hk⟩
  have K3 : Hid (Keeps [] w w3) := K2.out.trans hk (fun _ _ h => h)
  have H3 := hid (H2.out.k hk)
  have hz3 := hk.size
  clear hk
  go_wp2_with fail
  refine (clCall_any w3 n _ (cliNew confA 101) _ _ (readC ⟨#[97]⟩) (HT.out.k K3.out) (HE.out.k K3.out) H3.out (by decide) (by decide) (by decide) (readI _) (by show (0 : Nat) ≤ _; decide) (fun b hb => by show w1.heap.size + 2 ≤ b; have := HNN.out; omega)).mono ?_
  rw [call_A]
  rintro e w4 ⟨v, rfl, a4, q4, dv4, fv4, rfl, h4, l4, hk⟩
  dsimp only at h4 l4 hk ⊢
  have H4 := hid h4
  have L4 := hid l4
  have hz4 := hk.size
  have K4 : Hid (Keeps [] w w4) := K3.out.trans hk (fun x hx hx' => by simp at hx'; omega)
  clear hk h4 l4
  go_wp2_with fail
  refine (told24_any 1 101 1 ⟨0, 5, ⟨0, 0, ⟨#[]⟩⟩⟩ replyA_w _).mono ?_
  rintro e w5 ⟨a5, q5, rfl, d5, hk⟩
  have K5 : Hid (Keeps [] w w5) := K4.out.trans hk (fun _ _ h => h)
  have H5 := hid (H4.out.k hk)
  have L5 := hid (L4.out.k hk)
  have D5 := hid d5.1
  have hz5 := hk.size
  clear hk d5
  go_wp2_with fail
  have hh := clHear_any w5 n _ c1A dv4 fv4 tA none a5 0 0 q5 (HT.out.k K5.out) H5.out ⟨⟨by decide, fun _ => by decide⟩, read_w name_a, by decide⟩ D5.out (by decide +kernel) (fun b hb => by show w1.heap.size + 2 ≤ b; have := HNN.out; omega)
  rw [hear_A] at hh
  refine hh.mono ?_
  clear hh
  rintro e w6 ⟨v, rfl, a6, q6, dv6, fv6, rfl, h6, l6, hk⟩
  dsimp only at h6 l6 hk ⊢
  have H6 := hid h6
  have L6 := hid l6
  have L56 := hid (L5.out.keep hk (fun b hb hm => by simp at hm; subst hm; have := HNN.out; omega))
  have K6 : Hid (Keeps [] w w6) := K5.out.trans hk (fun x hx hx' => by simp at hx'; omega)
  clear hk h6 l6
  obtain ⟨g4, o4, k4, e4, c4, d4, f4, ha4, y0, y1, y2, y3, y4, y5, y6, y7, y8, y9, ye, yb⟩ := L56.out.msg (j := 0) rfl
  obtain ⟨g6, o6, k6, e6, c6, d6, f6, ha6, z0, z1, z2, z3, z4, z5, z6, z7, z8, z9, ze, zb⟩ := L6.out.msg (j := 0) rfl
  simp only [Value.slice.injEq] at ha4 ha6
  obtain ⟨rfl, -, rfl⟩ := ha4
  obtain ⟨rfl, -, rfl⟩ := ha6
  have cv : (convert 29 9 (.slice d4 m1A.data.length f4)).run Tryd.prog w6 = .ok (.string (str m1A.data)) w6 := cv_str yb.1 rfl
  simp only [m1A, m2A, List.length_cons, List.length_nil, Nat.zero_add, Nat.zero_mul, Nat.add_zero] at y2 y6 y9 z6 cv ⊢
  clear y0 y1 y3 y4 y5 y7 y8 z0 z1 z2 z3 z4 z5 z7 z8 z9 ye ze yb zb
  go_wp2_with fail
  refine (clSession_any H6.out).mono ?_
  rintro e w7 ⟨rfl, hk⟩
  have K7 : Hid (Keeps [] w w7) := K6.out.trans hk (fun _ _ h => h)
  have H7 := hid (H6.out.k hk)
  clear hk y2 y6 y9 z6 cv
  simp only [c2A]
  go_wp2_with fail
  refine (clSeq_any H7.out).mono ?_
  rintro e w8 ⟨rfl, hk⟩
  have K8 : Hid (Keeps [] w w8) := K7.out.trans hk (fun _ _ h => h)
  have H8 := hid (H7.out.k hk)
  clear hk
  simp only [c2A]
  go_wp2_with fail
  refine (clBusy_any H8.out).mono ?_
  rintro e w9 ⟨rfl, hk⟩
  have K9 : Hid (Keeps [] w w9) := K8.out.trans hk (fun _ _ h => h)
  clear hk
  simp only [c2A]
  go_wp2_with fail
  go_ret
  exact ⟨rfl, K9.out⟩

end Go.Proofs.YtbbdmmhpbeleoaaDoor
