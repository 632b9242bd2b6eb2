/- Joined of ClA, ClB, ClC. -/
import Derived.Test.YtnjdepojmnniaaaGreatDoorQ29
import Derived.Test.YtnjdepojmnniaaaGreatDoorQ30
import Derived.Laws.EntriesVeiled

set_option linter.unusedSimpArgs false
set_option linter.unusedVariables false

/- A client: plain; how it lies in memory; what it tells. -/
namespace Go.Proofs.YtnjdepojmnniaaaGreatDoor
open Go Go.RowKit

structure CliD where
  conf : ConfD
  id : Int
  node : Int
  session : Int
  seq : Int
  request : Int
  waited : Int
  call : CmdD
  last : MsgD
  does : Nat
  reply : ReplyD
/-- The same message goes «to» a node. -/
def againD (c : CliD) (node : Int) : CliD × List MsgD := ({ c with node := node, waited := 0 }, [⟨c.last.kind, c.last.frm, node, c.last.term, c.last.a, c.last.b, c.last.c, c.last.ok, c.last.entries, c.last.data⟩])
/-- What it asks: for a session, or for the call. -/
def cAskC (c : CliD) : CmdD := if 0 < c.session then { c.call with session := c.session, seq := c.seq + 1 } else oneC
def cAskedC (c : CliD) : CliD :=
  { c with seq := if 0 < c.session then c.seq + 1 else c.seq, does := if 0 < c.session then 2 else 1, request := c.request + 1, last := ⟨6, c.id, 0, 0, 0, 0, c.request + 1, false, [], putC (cAskC c)⟩ }
def cAskD (c : CliD) : CliD × List MsgD := againD (cAskedC c) c.node
/-- A call: what it is then, its messages, its error. -/
def callD (c : CliD) (x : CmdD) : CliD × List MsgD × Int :=
  if c.does ≠ 0 then (c, [], 20)
  else if x.kind = 1 ∨ checkC { x with session := 1, seq := 1 } = false then (c, [], 1)
  else if 1099511627775 ≤ c.seq ∨ 1099511627775 ≤ c.request then (c, [], 2)
  else ((cAskD { c with call := { x with session := 1, seq := 1 } }).1, (cAskD { c with call := { x with session := 1, seq := 1 } }).2, 0)
def ctickD (c : CliD) : CliD × List MsgD :=
  if c.does = 0 then (c, [])
  else if c.waited + 1 < c.conf.retry then ({ c with waited := c.waited + 1 }, [])
  else againD { c with waited := c.waited + 1 } (c.node.tmod c.conf.nodes + 1)
def openedD (c : CliD) (r : ReplyD) : CliD × List MsgD × Bool :=
  if r.err ≠ 0 ∨ r.n < 1 then (c, [], false) else ((cAskD { c with session := r.n, seq := 0 }).1, (cAskD { c with session := r.n, seq := 0 }).2, false)
def overD (c : CliD) (r : ReplyD) : CliD × List MsgD × Bool := ({ c with reply := r, does := 0, session := if r.err = 16 then 0 else c.session }, [], true)
/-- Is a message an answer «to» what it asked last? -/
def deafD (c : CliD) (m : MsgD) : Bool := c.does == 0 || m.kind != 7 || m.«to» != c.id || decide (m.frm < 1) || decide (c.conf.nodes < m.frm) || m.c != c.request
def chearD (c : CliD) (m : MsgD) : CliD × List MsgD × Bool :=
  if deafD c m = true then (c, [], false)
  else if m.ok = false then
    if m.a < 1 ∨ c.conf.nodes < m.a ∨ m.a = c.node then (c, [], false) else ((againD c m.a).1, (againD c m.a).2, false)
  else if (getR m.data).2 = false then (c, [], false)
  else if c.does = 1 then openedD c (getR m.data).1 else overD c (getR m.data).1

/-- What holds of a client at all times. -/
structure CliOk (c : CliD) : Prop where
  nodes : 3 ≤ c.conf.nodes ∧ c.conf.nodes ≤ 7
  retry : 1 ≤ c.conf.retry ∧ c.conf.retry ≤ 1000000
  waited : 0 ≤ c.waited ∧ c.waited ≤ c.conf.retry
  node : 1 ≤ c.node ∧ c.node ≤ c.conf.nodes
  session : 0 ≤ c.session ∧ c.session ≤ 1099511627776
  seq : 0 ≤ c.seq ∧ c.seq ≤ 1099511627776
  request : 0 ≤ c.request ∧ c.request ≤ 1099511627777
  call : CmdW c.call
  data : c.last.data.length ≤ 3000000
  does : c.does ≤ 2
  first : c.does = 1 → c.session = 0 ∧ c.request ≤ 1099511627776

def cmdCells (c : CmdD) : List Value := [.int .i64 c.kind, .int .i64 c.session, .int .i64 c.seq, .string c.field, .int .i64 c.version, .int .i64 c.value.kind, .int .i64 c.value.n, .string c.value.s]
def replyCells (r : ReplyD) : List Value := [.int .i64 r.err, .int .i64 r.n, .int .i64 r.value.kind, .int .i64 r.value.n, .string r.value.s]
def cliCells (c : CliD) (dv fv : Value) : Array Value := #[.int .i64 c.conf.nodes, .int .i64 c.conf.clients, .int .i64 c.conf.heart, .int .i64 c.conf.lo, .int .i64 c.conf.range, .int .i64 c.conf.sessions, .int .i64 c.conf.snap, .int .i64 c.conf.room, .int .i64 c.conf.retry,
  .int .i64 c.id, .int .i64 c.node, .int .i64 c.session, .int .i64 c.seq, .int .i64 c.request, .int .i64 c.waited,
  .int .i64 c.call.kind, .int .i64 c.call.session, .int .i64 c.call.seq, .string c.call.field, .int .i64 c.call.version, .int .i64 c.call.value.kind, .int .i64 c.call.value.n, .string c.call.value.s,
  .int .i64 c.last.kind, .int .i64 c.last.frm, .int .i64 c.last.«to», .int .i64 c.last.term, .int .i64 c.last.a, .int .i64 c.last.b, .int .i64 c.last.c, .bool c.last.ok, .slice none 0 0, dv,
  fv, .int .i64 c.reply.err, .int .i64 c.reply.n, .int .i64 c.reply.value.kind, .int .i64 c.reply.value.n, .string c.reply.value.s]

/-- What an answer does: a closure over the client's own variable. -/
def NextAt (w : World) (n : Nat) (Q : Nat → Prop) (does : Nat) (fv : Value) : Prop :=
  (does = 0 ∧ fv = .nilFunc) ∨
  (∃ f g, (does = 1 ∧ f = 37 ∨ does = 2 ∧ f = 39) ∧ fv = .func (.func f) #[] #[.pointer (some ⟨g, 0, none⟩)] ∧ w.heap[g]? = some (.cells #[.pointer (some ⟨n, 0, none⟩)] 26 (0, 0)) ∧ Q g)
structure CliAt (w : World) (n : Nat) (Q : Nat → Prop) (c : CliD) (dv fv : Value) : Prop where
  row : w.heap[n]? = some (.cells (cliCells c dv fv) 63 (0, 0))
  data : BytesAt w Q dv c.last.data
  ents : c.last.entries = []
  next : NextAt w n Q c.does fv
  off : ¬ Q n

theorem NextAt.keep {G : List Nat} {w w' : World} {n : Nat} {Q : Nat → Prop} {d : Nat} {fv : Value} (h : NextAt w n Q d fv) (k : Keeps G w w') (hQ : ∀ b, Q b → b ∉ G) : NextAt w' n Q d fv := by
  rcases h with h | ⟨f, g, h1, h2, h3, h4⟩
  · exact .inl h
  · exact .inr ⟨f, g, h1, h2, (k.block _ (Array.getElem?_eq_some_iff.1 h3).1 (hQ _ h4)).trans h3, h4⟩
theorem CliAt.keep {G : List Nat} {w w' : World} {n : Nat} {Q : Nat → Prop} {c : CliD} {dv fv : Value} (h : CliAt w n Q c dv fv) (k : Keeps G w w') (hn : n ∉ G) (hQ : ∀ b, Q b → b ∉ G) : CliAt w' n Q c dv fv :=
  ⟨(k.block _ (Array.getElem?_eq_some_iff.1 h.row).1 hn).trans h.row, h.data.keep k hQ, h.ents, h.next.keep k hQ, h.off⟩
theorem CliAt.k {w w' : World} {n : Nat} {Q : Nat → Prop} {c : CliD} {dv fv : Value} (h : CliAt w n Q c dv fv) (k : Keeps [] w w') : CliAt w' n Q c dv fv := h.keep k (by simp) (by simp)
theorem CliAt.lt {w : World} {n : Nat} {Q : Nat → Prop} {c : CliD} {dv fv : Value} (h : CliAt w n Q c dv fv) : n < w.heap.size := (Array.getElem?_eq_some_iff.1 h.row).1
/-- Cells of its own row are written anew; what it asked last, and what an answer does, stay. -/
theorem CliAt.set {w w' : World} {n : Nat} {Q : Nat → Prop} {c c' : CliD} {dv fv : Value} (h : CliAt w n Q c dv fv) (k : Keeps [n] w w') (hr : w'.heap[n]? = some (.cells (cliCells c' dv fv) 63 (0, 0))) (hl : c'.last.data = c.last.data) (he : c'.last.entries = []) (hd : c'.does = c.does) : CliAt w' n Q c' dv fv := by
  have hQ : ∀ b, Q b → b ∉ [n] := fun b hb hm => by simp at hm; subst hm; exact h.off hb
  exact ⟨hr, by rw [hl]; exact h.data.keep k hQ, he, by rw [hd]; exact h.next.keep k hQ, h.off⟩
def CliPost (n : Nat) (Q : Nat → Prop) (c' : CliD) (l : List MsgD) (w : World) (v : Value) (w' : World) : Prop :=
  ∃ a q dv fv, v = .slice a l.length q ∧ CliAt w' n Q c' dv fv ∧ ListAt msgL w' (fun b => w.heap.size ≤ b) (.slice a l.length q) l ∧ Keeps [n] w w'
theorem CliPost.silent {n : Nat} {Q : Nat → Prop} {c : CliD} {w w' : World} {dv fv : Value} (h : CliAt w' n Q c dv fv) (k : Keeps [n] w w') : CliPost n Q c [] w (.slice none 0 0) w' :=
  ⟨none, 0, dv, fv, rfl, h, ListAt.nil _ _ _ _, k⟩

section
variable {w : World} {n : Nat} {Q : Nat → Prop} {c : CliD} {dv fv : Value} (h : CliAt w n Q c dv fv)
include h
theorem CliAt.cell (i : Nat) : w.cell? ⟨n, i, none⟩ = (cliCells c dv fv)[i]? := cell_of_block h.row i
theorem CliAt.free (i : Nat) : w.frozen? ⟨n, i, none⟩ = false := frozen_of_row w n i _ _ h.row

set_option maxRecDepth 100000 in
theorem clBusy_any : Calls Tryz.prog 21 #[.pointer (some ⟨n, 0, none⟩)] w fun e w' => e = .returned (.bool (c.does != 0)) ∧ Keeps [] w w' := by
  have x33 : w.cell? ⟨n, 33, none⟩ = some fv := h.cell 33
  have hN := h.next
  clear h
  rcases hN with ⟨h0, rfl⟩ | ⟨f, g, hd, rfl, -, -⟩
  · rw [h0]
    have b0 : ∀ w : World, Sem.run Tryz.prog (binOp BinOp.neq 61 Value.nilFunc Value.nilFunc) w = Result.ok (.bool false) w := fun _ => by kernel_rfl
    go_enter Tryz.func21, Tryz.ntmps21
    go_wp2_with fail
    go_ret
    exact ⟨rfl, Keeps.K⟩
  · have hd0 : (c.does != 0) = true := by simp; omega
    rw [hd0]
    clear hd hd0
    have b0 : ∀ w : World, Sem.run Tryz.prog (binOp BinOp.neq 61 (.func (.func f) #[] #[.pointer (some ⟨g, 0, none⟩)]) Value.nilFunc) w = Result.ok (.bool true) w := fun _ => by kernel_rfl
    go_enter Tryz.func21, Tryz.ntmps21
    go_wp2_with fail
    go_ret
    exact ⟨rfl, Keeps.K⟩
set_option maxRecDepth 100000 in
theorem clSession_any : Calls Tryz.prog 19 #[.pointer (some ⟨n, 0, none⟩)] w fun e w' => e = .returned (.int .i64 c.session) ∧ Keeps [] w w' := by
  have x11 : w.cell? ⟨n, 11, none⟩ = some (.int .i64 c.session) := h.cell 11
  clear h
  go_enter Tryz.func19, Tryz.ntmps19
  go_wp2_with fail
  go_ret
  exact ⟨rfl, Keeps.K⟩
set_option maxRecDepth 100000 in
theorem clSeq_any : Calls Tryz.prog 20 #[.pointer (some ⟨n, 0, none⟩)] w fun e w' => e = .returned (.int .i64 c.seq) ∧ Keeps [] w w' := by
  have x12 : w.cell? ⟨n, 12, none⟩ = some (.int .i64 c.seq) := h.cell 12
  clear h
  go_enter Tryz.func20, Tryz.ntmps20
  go_wp2_with fail
  go_ret
  exact ⟨rfl, Keeps.K⟩
set_option maxRecDepth 100000 in
theorem clReply_any : Calls Tryz.prog 34 #[.pointer (some ⟨n, 0, none⟩)] w fun e w' => e = .returned (replyV c.reply) ∧ Keeps [] w w' := by
  have x34 : w.cell? ⟨n, 34, none⟩ = some (.int .i64 c.reply.err) := h.cell 34
  have x35 : w.cell? ⟨n, 35, none⟩ = some (.int .i64 c.reply.n) := h.cell 35
  have x36 : w.cell? ⟨n, 36, none⟩ = some (.int .i64 c.reply.value.kind) := h.cell 36
  have x37 : w.cell? ⟨n, 37, none⟩ = some (.int .i64 c.reply.value.n) := h.cell 37
  have x38 : w.cell? ⟨n, 38, none⟩ = some (.string c.reply.value.s) := h.cell 38
  have hlt := h.lt
  clear h
  go_enter Tryz.func34, Tryz.ntmps34
  go_wp2_with fail
  refine bodyPost_ret (v := replyV c.reply) (by simp [results, Tryz.results34, go_sem, replyV]) rfl ?_
  exact ⟨rfl, by exact Keeps.K⟩
end

end Go.Proofs.YtnjdepojmnniaaaGreatDoor

/- The client's again. -/
namespace Go.Proofs.YtnjdepojmnniaaaGreatDoor
open Go Go.RowKit

theorem MsgsPost.cli {n : Nat} {Q : Nat → Prop} {c' : CliD} {l : List MsgD} {w w0 w' : World} {v dv fv : Value} (h : CliAt w0 n Q c' dv fv) (k : Keeps [n] w w0) (hp : MsgsPost l w0 (.returned v) w') : CliPost n Q c' l w v w' := by
  obtain ⟨a, q, he, hf, hk⟩ := hp
  injection he with he
  exact ⟨a, q, dv, fv, he, h.k hk, OwnAt.list hf (fun b _ hb => Nat.le_trans k.size hb.1) (fun b hb => Nat.le_trans k.size (OwnAt.ge hf b hb).1), k.trans hk (fun _ _ h => by cases h)⟩

set_option maxRecDepth 100000 in
set_option maxHeartbeats 4000000 in
theorem clAgain_any (w : World) (n : Nat) (Q : Nat → Prop) (c : CliD) (dv fv : Value) (node : Int) (h : CliAt w n Q c dv fv) (hd : c.last.data.length ≤ 3000000) :
    Calls Tryz.prog 24 #[.pointer (some ⟨n, 0, none⟩), .int .i64 node] w fun e w' => ∃ v, e = .returned v ∧ CliPost n Q (againD c node).1 (againD c node).2 w v w' := by
  obtain ⟨i0, hi, hz0, hz1, hz2⟩ := info_parts Tryz.infoU8
  obtain ⟨da, dc, rfl⟩ := h.data.form
  have H := hid h
  have x10 : w.cell? ⟨n, 10, none⟩ = some (.int .i64 c.node) := h.cell 10
  have x14 : w.cell? ⟨n, 14, none⟩ = some (.int .i64 c.waited) := h.cell 14
  have x23 : w.cell? ⟨n, 23, none⟩ = some (.int .i64 c.last.kind) := h.cell 23
  have x24 : w.cell? ⟨n, 24, none⟩ = some (.int .i64 c.last.frm) := h.cell 24
  have x25 : w.cell? ⟨n, 25, none⟩ = some (.int .i64 c.last.«to») := h.cell 25
  have x26 : w.cell? ⟨n, 26, none⟩ = some (.int .i64 c.last.term) := h.cell 26
  have x27 : w.cell? ⟨n, 27, none⟩ = some (.int .i64 c.last.a) := h.cell 27
  have x28 : w.cell? ⟨n, 28, none⟩ = some (.int .i64 c.last.b) := h.cell 28
  have x29 : w.cell? ⟨n, 29, none⟩ = some (.int .i64 c.last.c) := h.cell 29
  have x30 : w.cell? ⟨n, 30, none⟩ = some (.bool c.last.ok) := h.cell 30
  have x31 : w.cell? ⟨n, 31, none⟩ = some (.slice none 0 0) := h.cell 31
  have x32 : w.cell? ⟨n, 32, none⟩ = some (.slice da c.last.data.length dc) := h.cell 32
  have f0 : ∀ i, w.frozen? ⟨n, i, none⟩ = false := h.free
  have hlt := h.lt
  have hpl : c.last.data.length ≤ 140737488355328 := by omega
  have K0 : Hid (Keeps [n] w ((w.setCell ⟨n, 10, none⟩ (.int .i64 node)).setCell ⟨n, 14, none⟩ (.int .i64 0))) := by show Keeps _ _ _; exact Keeps.K
  have H0 : Hid (CliAt ((w.setCell ⟨n, 10, none⟩ (.int .i64 node)).setCell ⟨n, 14, none⟩ (.int .i64 0)) n Q (againD c node).1 (.slice da c.last.data.length dc) fv) :=
    h.set K0.out (heap_setCell_same _ _ 14 _ _ _ (heap_setCell_same _ _ 10 _ _ _ h.row)) rfl h.ents rfl
  have HE := hid h.ents
  have HX : Hid ((((w.setCell ⟨n, 10, none⟩ (.int .i64 node)).setCell ⟨n, 14, none⟩ (.int .i64 0)).alloc (.cells #[.int .i64 c.last.kind, .int .i64 c.last.frm, .int .i64 node, .int .i64 c.last.term, .int .i64 c.last.a, .int .i64 c.last.b, .int .i64 c.last.c, .bool c.last.ok, .slice none 0 0, .slice da c.last.data.length dc] 38)).heap[w.heap.size]? = some (.cells #[.int .i64 c.last.kind, .int .i64 c.last.frm, .int .i64 node, .int .i64 c.last.term, .int .i64 c.last.a, .int .i64 c.last.b, .int .i64 c.last.c, .bool c.last.ok, .slice none 0 0, .slice da c.last.data.length dc] 38 (0, 0))) := by
    have e := heap_alloc_new ((w.setCell ⟨n, 10, none⟩ (.int .i64 node)).setCell ⟨n, 14, none⟩ (.int .i64 0)) (.cells #[.int .i64 c.last.kind, .int .i64 c.last.frm, .int .i64 node, .int .i64 c.last.term, .int .i64 c.last.a, .int .i64 c.last.b, .int .i64 c.last.c, .bool c.last.ok, .slice none 0 0, .slice da c.last.data.length dc] 38)
    rw [show ((w.setCell ⟨n, 10, none⟩ (.int .i64 node)).setCell ⟨n, 14, none⟩ (.int .i64 0)).heap.size = w.heap.size by simp] at e
    exact e
  have HD : Hid (BytesAt (((w.setCell ⟨n, 10, none⟩ (.int .i64 node)).setCell ⟨n, 14, none⟩ (.int .i64 0)).alloc (.cells #[.int .i64 c.last.kind, .int .i64 c.last.frm, .int .i64 node, .int .i64 c.last.term, .int .i64 c.last.a, .int .i64 c.last.b, .int .i64 c.last.c, .bool c.last.ok, .slice none 0 0, .slice da c.last.data.length dc] 38)) Q (.slice da c.last.data.length dc) c.last.data) := (h.data.keep K0.out (fun b hb hm => by simp at hm; subst hm; exact h.off hb)).k (by exact Keeps.K)
  clear h
  go_enter Tryz.func24, Tryz.ntmps24
  go_wp2_with (at_builtin; refine wpList_append_copy _ rfl (.tmp 20) 36 rfl 5 i0 (.int .u8 0) 1 1 Tryz.underlying36 hi hz0 hz1 hz2 rfl (by decide) (.slice da c.last.data.length dc) c.last.data.length (u8s c.last.data) rfl HD.out.1 (u8s_one _) (by omega) (le_maxLen (by omega)) ?_)
  intro v' w2 h1 h2
  obtain ⟨a2, q2, rfl⟩ := len_form h1
  have KX : Hid (Keeps [] (((w.setCell ⟨n, 10, none⟩ (.int .i64 node)).setCell ⟨n, 14, none⟩ (.int .i64 0)).alloc (.cells #[.int .i64 c.last.kind, .int .i64 c.last.frm, .int .i64 node, .int .i64 c.last.term, .int .i64 c.last.a, .int .i64 c.last.b, .int .i64 c.last.c, .bool c.last.ok, .slice none 0 0, .slice da c.last.data.length dc] 38)) w2) := Keeps.ofGrown h2 (fun _ h => by cases h)
  have O2 := hid h1
  have hx2 := (KX.out.block _ (Array.getElem?_eq_some_iff.1 HX.out).1 (by simp)).trans HX.out
  obtain ⟨⟨y0, y1, y2, y3, y4, y5, y6, y7, y8, y9⟩, fy⟩ := blk10 hx2
  have HX2 := hid hx2
  clear h1 h2 hx2 x10 x14 x23 x24 x25 x26 x27 x28 x29 x30 x31 x32 f0
  go_wp2_with fail
  go_ret
  refine ⟨_, rfl, ?_⟩
  have hsz : (((w.setCell ⟨n, 10, none⟩ (.int .i64 node)).setCell ⟨n, 14, none⟩ (.int .i64 0))).heap.size = w.heap.size := by simp
  have kS : Keeps [w.heap.size] w2 (w2.setCell ⟨w.heap.size, 9, none⟩ (.slice a2 c.last.data.length q2)) := (Keeps.refl _ _).setCell (.inl (by simp)) _
  have k1 : Keeps [] (((w.setCell ⟨n, 10, none⟩ (.int .i64 node)).setCell ⟨n, 14, none⟩ (.int .i64 0))) (w2.setCell ⟨w.heap.size, 9, none⟩ (.slice a2 c.last.data.length q2)) := (Keeps.trans (F := []) (G := []) (by exact Keeps.K) KX.out (fun _ _ h => h)).trans kS (fun b hb hm => by simp at hm; omega)
  have d1 : BytesAt (w2.setCell ⟨w.heap.size, 9, none⟩ (.slice a2 c.last.data.length q2)) (fun b => (((w.setCell ⟨n, 10, none⟩ (.int .i64 node)).setCell ⟨n, 14, none⟩ (.int .i64 0))).heap.size ≤ b) (.slice a2 c.last.data.length q2) c.last.data :=
    ((BytesAt.ofOwn (P := fun b => w.heap.size + 1 ≤ b) O2.out rfl (fun b h1 _ => by simpa using h1)).keep kS (fun b hb hm => by simp at hm; omega)).mono (fun b _ hb => by simp; omega)
  have hM := (msgs_one (m := ⟨c.last.kind, c.last.frm, node, c.last.term, c.last.a, c.last.b, c.last.c, c.last.ok, c.last.entries, c.last.data⟩) (ev := .slice none 0 0) k1 (by rw [HE.out]; exact ListAt.nil _ _ _ _) d1)
  rw [show (w2.setCell ⟨w.heap.size, 9, none⟩ (.slice a2 c.last.data.length q2)).heap.size = w2.heap.size by simp] at hM
  exact MsgsPost.cli H0.out K0.out hM

end Go.Proofs.YtnjdepojmnniaaaGreatDoor

/- What the client asks. -/
namespace Go.Proofs.YtnjdepojmnniaaaGreatDoor
open Go Go.RowKit

theorem CliPost.from {n : Nat} {Q : Nat → Prop} {c' : CliD} {l : List MsgD} {w w1 w' : World} {v : Value} (h : CliPost n Q c' l w1 v w') (k : Keeps [n] w w1) : CliPost n Q c' l w v w' := by
  obtain ⟨a, q, dv, fv, h1, h2, h3, h4⟩ := h
  exact ⟨a, q, dv, fv, h1, h2, h3.mono (fun b _ hb => Nat.le_trans k.size hb), k.trans h4 (fun _ _ h => h)⟩

/-- What it asked last is written anew. -/
theorem CliAt.last {w : World} {n : Nat} {Q : Nat → Prop} {c : CliD} {dv fv : Value} (h : CliAt w n Q c dv fv) (m : MsgD) (dv' : Value) (hm : m.entries = []) (hd : BytesAt w Q dv' m.data) :
    CliAt ((((((((((w.setCell ⟨n, 23, none⟩ (.int .i64 m.kind)).setCell ⟨n, 24, none⟩ (.int .i64 m.frm)).setCell ⟨n, 25, none⟩ (.int .i64 m.«to»)).setCell ⟨n, 26, none⟩ (.int .i64 m.term)).setCell ⟨n, 27, none⟩ (.int .i64 m.a)).setCell ⟨n, 28, none⟩ (.int .i64 m.b)).setCell ⟨n, 29, none⟩ (.int .i64 m.c)).setCell ⟨n, 30, none⟩ (.bool m.ok)).setCell ⟨n, 31, none⟩ (.slice none 0 0)).setCell ⟨n, 32, none⟩ (dv')) n Q { c with last := m } dv' fv ∧ Keeps [n] w ((((((((((w.setCell ⟨n, 23, none⟩ (.int .i64 m.kind)).setCell ⟨n, 24, none⟩ (.int .i64 m.frm)).setCell ⟨n, 25, none⟩ (.int .i64 m.«to»)).setCell ⟨n, 26, none⟩ (.int .i64 m.term)).setCell ⟨n, 27, none⟩ (.int .i64 m.a)).setCell ⟨n, 28, none⟩ (.int .i64 m.b)).setCell ⟨n, 29, none⟩ (.int .i64 m.c)).setCell ⟨n, 30, none⟩ (.bool m.ok)).setCell ⟨n, 31, none⟩ (.slice none 0 0)).setCell ⟨n, 32, none⟩ (dv')) := by
  have k : Keeps [n] w ((((((((((w.setCell ⟨n, 23, none⟩ (.int .i64 m.kind)).setCell ⟨n, 24, none⟩ (.int .i64 m.frm)).setCell ⟨n, 25, none⟩ (.int .i64 m.«to»)).setCell ⟨n, 26, none⟩ (.int .i64 m.term)).setCell ⟨n, 27, none⟩ (.int .i64 m.a)).setCell ⟨n, 28, none⟩ (.int .i64 m.b)).setCell ⟨n, 29, none⟩ (.int .i64 m.c)).setCell ⟨n, 30, none⟩ (.bool m.ok)).setCell ⟨n, 31, none⟩ (.slice none 0 0)).setCell ⟨n, 32, none⟩ (dv')) := by exact Keeps.K
  have hQ : ∀ b, Q b → b ∉ [n] := fun b hb hm => by simp at hm; subst hm; exact h.off hb
  refine ⟨⟨?_, hd.keep k hQ, hm, h.next.keep k hQ, h.off⟩, k⟩
  have e := (heap_setCell_same _ _ 32 _ _ (dv') (heap_setCell_same _ _ 31 _ _ (.slice none 0 0) (heap_setCell_same _ _ 30 _ _ (.bool m.ok) (heap_setCell_same _ _ 29 _ _ (.int .i64 m.c) (heap_setCell_same _ _ 28 _ _ (.int .i64 m.b) (heap_setCell_same _ _ 27 _ _ (.int .i64 m.a) (heap_setCell_same _ _ 26 _ _ (.int .i64 m.term) (heap_setCell_same _ _ 25 _ _ (.int .i64 m.«to») (heap_setCell_same _ _ 24 _ _ (.int .i64 m.frm) (heap_setCell_same _ _ 23 _ _ (.int .i64 m.kind) h.row))))))))))
  unfold cliCells at e ⊢
  simp only [List.setIfInBounds_toArray, List.set_cons_zero, List.set_cons_succ] at e
  exact e
theorem oneC_parts : cmdV oneC = .agg #[.int .i64 1, .int .i64 0, .int .i64 0, .string ⟨#[]⟩, .int .i64 0, .int .i64 0, .int .i64 0, .string ⟨#[]⟩] := rfl

set_option maxRecDepth 100000 in
set_option maxHeartbeats 8000000 in
theorem clAsk_none (w : World) (n : Nat) (Q : Nat → Prop) (c : CliD) (dv fv : Value) (h : CliAt w n Q c dv fv) (hr : 0 ≤ c.request ∧ c.request ≤ 1099511627776) (hs : ¬ 0 < c.session) (hQ : ∀ b, w.heap.size ≤ b → Q b) :
    Calls Tryz.prog 23 #[.pointer (some ⟨n, 0, none⟩)] w fun e w' => ∃ v, e = .returned v ∧ CliPost n Q (cAskD c).1 (cAskD c).2 w v w' := by
  have H := hid h
  have HQ := hid hQ
  have x9 : w.cell? ⟨n, 9, none⟩ = some (.int .i64 c.id) := h.cell 9
  have x10 : w.cell? ⟨n, 10, none⟩ = some (.int .i64 c.node) := h.cell 10
  have x11 : w.cell? ⟨n, 11, none⟩ = some (.int .i64 c.session) := h.cell 11
  have x13 : w.cell? ⟨n, 13, none⟩ = some (.int .i64 c.request) := h.cell 13
  have x33 : w.cell? ⟨n, 33, none⟩ = some fv := h.cell 33
  have f0 : ∀ i, w.frozen? ⟨n, i, none⟩ = false := h.free
  have hlt := h.lt
  obtain ⟨hr0, hr1⟩ := hr
  have hw : IntKind.i64.wrap (c.request + 1) = c.request + 1 := by rw [IntKind.wrap_i64]; omega
  have hmf : ∀ (fn : Fn) (first cap : Array Value) (w : World), (Instr.makeFunc fn first cap).run Tryz.prog w = .ok (.func fn first cap) w := fun _ _ _ _ => rfl
  have hv1 : fv.oneCell' = true := by
    rcases h.next with ⟨_, rfl⟩ | ⟨f, g, _, rfl, _⟩ <;> rfl
  clear h hQ
  go_enter Tryz.func23, Tryz.ntmps23
  go_wp2_with fail
  obtain ⟨wB, hwB⟩ : ∃ wB, (((w.setCell ⟨n, 33, none⟩ (.func (.func 37) #[] #[.pointer (some ⟨w.heap.size, 0, none⟩)])).setCell ⟨n, 13, none⟩ (.int .i64 (c.request + 1))).alloc (.cells #[.pointer (some ⟨n, 0, none⟩)] 26)).alloc (.cells #[.int .i64 1, .int .i64 0, .int .i64 0, .string ⟨#[]⟩, .int .i64 0, .int .i64 0, .int .i64 0, .string ⟨#[]⟩] 34) = wB := ⟨_, rfl⟩
  have hsz : ((w.setCell ⟨n, 33, none⟩ (.func (.func 37) #[] #[.pointer (some ⟨w.heap.size, 0, none⟩)])).setCell ⟨n, 13, none⟩ (.int .i64 (c.request + 1))).heap.size = w.heap.size := by simp
  have K0 : Hid (Keeps [n] w wB) := by rw [← hwB]; exact Keeps.K
  have KW : Hid (Keeps [] ((w.setCell ⟨n, 33, none⟩ (.func (.func 37) #[] #[.pointer (some ⟨w.heap.size, 0, none⟩)])).setCell ⟨n, 13, none⟩ (.int .i64 (c.request + 1))) wB) := by rw [← hwB]; exact Keeps.K
  have HG : Hid (wB.heap[w.heap.size]? = some (.cells #[.pointer (some ⟨n, 0, none⟩)] 26 (0, 0))) := by
    have e := heap_alloc_new ((w.setCell ⟨n, 33, none⟩ (.func (.func 37) #[] #[.pointer (some ⟨w.heap.size, 0, none⟩)])).setCell ⟨n, 13, none⟩ (.int .i64 (c.request + 1))) (.cells #[.pointer (some ⟨n, 0, none⟩)] 26)
    rw [hsz] at e
    rw [← hwB]
    exact (Keeps.block (F := []) (w := ((w.setCell ⟨n, 33, none⟩ (.func (.func 37) #[] #[.pointer (some ⟨w.heap.size, 0, none⟩)])).setCell ⟨n, 13, none⟩ (.int .i64 (c.request + 1))).alloc (.cells #[.pointer (some ⟨n, 0, none⟩)] 26)) (by exact Keeps.K) w.heap.size (by simp) (by simp)).trans e
  have HX : Hid (wB.heap[w.heap.size + 1]? = some (.cells #[.int .i64 1, .int .i64 0, .int .i64 0, .string ⟨#[]⟩, .int .i64 0, .int .i64 0, .int .i64 0, .string ⟨#[]⟩] 34 (0, 0))) := by
    have e := new2nd ((w.setCell ⟨n, 33, none⟩ (.func (.func 37) #[] #[.pointer (some ⟨w.heap.size, 0, none⟩)])).setCell ⟨n, 13, none⟩ (.int .i64 (c.request + 1))) (.cells #[.pointer (some ⟨n, 0, none⟩)] 26) (.cells #[.int .i64 1, .int .i64 0, .int .i64 0, .string ⟨#[]⟩, .int .i64 0, .int .i64 0, .int .i64 0, .string ⟨#[]⟩] 34)
    rw [hsz] at e
    rw [← hwB]
    exact e
  have HB : Hid (CliAt wB n Q { c with request := c.request + 1, does := 1 } dv (.func (.func 37) #[] #[.pointer (some ⟨w.heap.size, 0, none⟩)])) :=
    ⟨(KW.out.block n (by rw [hsz]; exact hlt) (by simp)).trans (by have e := heap_setCell_same _ _ 13 _ _ (.int .i64 (c.request + 1)) (heap_setCell_same _ _ 33 _ _ (.func (.func 37) #[] #[.pointer (some ⟨w.heap.size, 0, none⟩)]) H.out.row); unfold cliCells at e ⊢; simp only [List.setIfInBounds_toArray, List.set_cons_zero, List.set_cons_succ] at e; exact e),
      H.out.data.keep K0.out (fun b hb hm => by simp at hm; subst hm; exact H.out.off hb), H.out.ents, .inr ⟨37, w.heap.size, .inl ⟨rfl, rfl⟩, rfl, HG.out, HQ.out _ (Nat.le_refl _)⟩, H.out.off⟩
  rw [hwB]
  clear hwB x9 x10 x11 x13 x33 f0 hw
  obtain ⟨⟨u0, u1, u2, u3, u4, u5, u6, u7⟩, -⟩ := blk8 HX.out
  have g0 : wB.cell? ⟨w.heap.size, 0, none⟩ = some (.pointer (some ⟨n, 0, none⟩)) := cell_of_block HG.out 0
  have x9 : wB.cell? ⟨n, 9, none⟩ = some (.int .i64 c.id) := HB.out.cell 9
  have x13 : wB.cell? ⟨n, 13, none⟩ = some (.int .i64 (c.request + 1)) := HB.out.cell 13
  refine Plan.wp_region_plan (fun wx => (wx.cell? ⟨w.heap.size + 1, 0, none⟩ = some (.int .i64 1) ∧ wx.cell? ⟨w.heap.size + 1, 1, none⟩ = some (.int .i64 0) ∧ wx.cell? ⟨w.heap.size + 1, 2, none⟩ = some (.int .i64 0) ∧ wx.cell? ⟨w.heap.size + 1, 3, none⟩ = some (.string ⟨#[]⟩) ∧ wx.cell? ⟨w.heap.size + 1, 4, none⟩ = some (.int .i64 0) ∧ wx.cell? ⟨w.heap.size + 1, 5, none⟩ = some (.int .i64 0) ∧ wx.cell? ⟨w.heap.size + 1, 6, none⟩ = some (.int .i64 0) ∧ wx.cell? ⟨w.heap.size + 1, 7, none⟩ = some (.string ⟨#[]⟩)) ∧ wx.cell? ⟨w.heap.size, 0, none⟩ = some (.pointer (some ⟨n, 0, none⟩)) ∧ wx.cell? ⟨n, 9, none⟩ = some (.int .i64 c.id) ∧ wx.cell? ⟨n, 13, none⟩ = some (.int .i64 (c.request + 1))) 12 [(true, 0), (true, 1), (true, 2), (true, 3), (true, 4), (true, 5), (true, 6), (true, 7), (true, 8), (true, 9), (false, 10), (true, 11)] (by kernel_rfl) (by as_aux_lemma => kernel_rfl) (by kernel_rfl) (fun _ _ _ _ _ h => h) ?_ (fun hS => ?_)
  (· go_simp)
  simp only [Plan.pick, List.append_eq, List.cons_append, List.nil_append, Plan.g1, Plan.g2, Option.getD_some, List.drop_succ_cons, List.drop_zero]
  iterate 10 (first | refine Plan.tA ?_ | refine Plan.tY ?_ | refine Plan.pN ?_ | refine Plan.pU ?_ | fail)
  refine Plan.step ?_
  go_wp2_with fail
  refine (cmPut_any oneC wide1 _).mono ?_
  rintro e w4 ⟨a4, q4, rfl, h4, hk⟩
  rw [List.nil_append] at h4 ⊢
  have hcL : (putC oneC).length ≤ 3000000 := by have := putC_len oneC wide1; omega
  obtain ⟨DL, hDL⟩ : ∃ DL, putC oneC = DL := ⟨_, rfl⟩
  have HDL := hid hDL
  rw [hDL] at h4 hcL ⊢
  have kB4 : Keeps [] wB w4 := Keeps.trans (by exact Keeps.K) hk (fun _ _ h => h)
  have K4 : Hid (Keeps [n] w w4) := K0.out.trans kB4 (fun _ _ h => by cases h)
  have H4 : Hid (CliAt w4 n Q { c with request := c.request + 1, does := 1 } dv (.func (.func 37) #[] #[.pointer (some ⟨w.heap.size, 0, none⟩)])) := HB.out.k kB4
  have D4 : Hid (BytesAt w4 Q (.slice a4 DL.length q4) DL) := BytesAt.ofOwn h4 rfl (fun b h1 _ => HQ.out b (by have := K0.out.size; simp at h1; omega))
  have hg4 := (kB4.block _ (Array.getElem?_eq_some_iff.1 HG.out).1 (by simp)).trans HG.out
  have hx4 := (kB4.block _ (Array.getElem?_eq_some_iff.1 HX.out).1 (by simp)).trans HX.out
  clear hk h4 hDL kB4 hS u0 u1 u2 u3 u4 u5 u6 u7 g0 x9 x13
  obtain ⟨⟨u0, u1, u2, u3, u4, u5, u6, u7⟩, -⟩ := blk8 hx4
  have g0 : w4.cell? ⟨w.heap.size, 0, none⟩ = some (.pointer (some ⟨n, 0, none⟩)) := cell_of_block hg4 0
  have hgn : w.heap.size ≠ n := by omega
  clear hx4 hg4
  have x9 : w4.cell? ⟨n, 9, none⟩ = some (.int .i64 c.id) := H4.out.cell 9
  have x10 : w4.cell? ⟨n, 10, none⟩ = some (.int .i64 c.node) := H4.out.cell 10
  have x13 : w4.cell? ⟨n, 13, none⟩ = some (.int .i64 (c.request + 1)) := H4.out.cell 13
  have x23 : w4.cell? ⟨n, 23, none⟩ = some (.int .i64 c.last.kind) := H4.out.cell 23
  have x24 : w4.cell? ⟨n, 24, none⟩ = some (.int .i64 c.last.frm) := H4.out.cell 24
  have x25 : w4.cell? ⟨n, 25, none⟩ = some (.int .i64 c.last.«to») := H4.out.cell 25
  have x26 : w4.cell? ⟨n, 26, none⟩ = some (.int .i64 c.last.term) := H4.out.cell 26
  have x27 : w4.cell? ⟨n, 27, none⟩ = some (.int .i64 c.last.a) := H4.out.cell 27
  have x28 : w4.cell? ⟨n, 28, none⟩ = some (.int .i64 c.last.b) := H4.out.cell 28
  have x29 : w4.cell? ⟨n, 29, none⟩ = some (.int .i64 c.last.c) := H4.out.cell 29
  have x30 : w4.cell? ⟨n, 30, none⟩ = some (.bool c.last.ok) := H4.out.cell 30
  have x31 : w4.cell? ⟨n, 31, none⟩ = some (.slice none 0 0) := H4.out.cell 31
  have x32 : w4.cell? ⟨n, 32, none⟩ = some (dv) := H4.out.cell 32
  have f0 : ∀ i, w4.frozen? ⟨n, i, none⟩ = false := H4.out.free
  go_wp2_with fail
  refine ⟨?_, ?_⟩
  (· go_simp)
  iterate 1 (first | refine Plan.tA ?_ | refine Plan.tY ?_ | refine Plan.pN ?_ | refine Plan.pU ?_ | fail)
  refine Plan.fin ?_
  have hdv : dv.oneCell' = true := by obtain ⟨x, y, rfl⟩ := H4.out.data.form; rfl
  go_wp2_with fail
  obtain ⟨h5, k5⟩ := H4.out.last ⟨6, c.id, 0, 0, 0, 0, c.request + 1, false, [], DL⟩ (.slice a4 DL.length q4) rfl D4.out
  have hA : { c with request := c.request + 1, does := 1, last := ⟨6, c.id, 0, 0, 0, 0, c.request + 1, false, [], DL⟩ } = cAskedC c := by
    have hs' : ¬ 0 < c.session := by omega
    unfold cAskedC cAskC
    rw [if_neg hs', if_neg hs', if_neg hs', HDL.out]
  have hAL : (cAskedC c).last.data.length ≤ 3000000 := by rw [← hA]; exact hcL
  rw [hA] at h5
  have H5 := hid h5
  have K5 : Hid (Keeps [n] w _) := K4.out.trans k5 (fun _ _ h => h)
  clear h5 k5
  refine Plan.wp_region_plan (fun wx => wx.cell? ⟨w.heap.size, 0, none⟩ = some (.pointer (some ⟨n, 0, none⟩)) ∧ wx.cell? ⟨n, 10, none⟩ = some (.int .i64 c.node)) 5 [(true, 0), (true, 1), (true, 2), (true, 3), (true, 4)] (by kernel_rfl) (by as_aux_lemma => kernel_rfl) (by kernel_rfl) (fun _ _ _ _ _ h => h) ?_ (fun hS => ?_)
  (· go_simp)
  simp only [Plan.pick, List.append_eq, List.cons_append, List.nil_append, Plan.g1, Plan.g2, Option.getD_some, List.drop_succ_cons, List.drop_zero]
  iterate 5 (first | refine Plan.tA ?_ | refine Plan.tY ?_ | refine Plan.pN ?_ | refine Plan.pU ?_ | fail)
  refine Plan.fin ?_
  go_wp2_with fail
  refine (clAgain_any _ n Q _ _ _ c.node (H5.out.k (by exact Keeps.K)) hAL).mono ?_
  rintro e w6 ⟨v, rfl, a6, q6, dv6, fv6, rfl, h6, h7, h8⟩
  have HP : Hid (CliPost n Q (cAskD c).1 (cAskD c).2 w (.slice a6 (cAskD c).2.length q6) w6) := CliPost.from ⟨a6, q6, dv6, fv6, rfl, h6, h7, h8⟩ (K5.out.trans (G := []) (by exact Keeps.K) (fun _ _ h => by cases h))
  clear h6 h7 h8
  go_wp2_with fail
  go_ret
  exact ⟨_, rfl, HP.out⟩

end Go.Proofs.YtnjdepojmnniaaaGreatDoor
