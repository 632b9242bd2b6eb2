/- Boxes: what a box is, what it is when it is asserted. -/
import Derived.Test.YtnekkkppjofdlaaDoorVaK
namespace Go.Proofs.YtnekkkppjofdlaaDoor
open Go Go.RowKit
set_option maxRecDepth 100000

def kindOf (want : ValD) (is : Bool) : Int := if is then want.kind else -1

/-- A box is that value (none, where `is` says no), whatever it is asserted to be. -/
structure BoxOk (x : Value) (want : ValD) (is : Bool) : Prop where
  unbox : ∀ w, Tabs w → Calls Tryd.prog 15 #[x] w (UnboxPost want is w)
  kind : ∀ w, Tabs w → Calls Tryd.prog 16 #[x] w fun e w' => e = .returned (.int .i64 (kindOf want is)) ∧ Keeps [] w w'
  intY : is = true → want.kind = 1 → ∀ w, Tabs w → Calls Tryd.prog 27 #[x] w fun e w' => e = .returned (.int .i64 want.n) ∧ Keeps [] w w'
  intN : (is && want.kind == 1) = false → ∀ w, Tabs w → Calls Tryd.prog 27 #[x] w (FellPost 1 (kindOf want is) w)
  boolY : is = true → want.kind = 2 → ∀ w, Tabs w → Calls Tryd.prog 28 #[x] w fun e w' => e = .returned (.bool (want.n == 1)) ∧ Keeps [] w w'
  boolN : (is && want.kind == 2) = false → ∀ w, Tabs w → Calls Tryd.prog 28 #[x] w (FellPost 2 (kindOf want is) w)
  textY : is = true → want.kind = 3 → ∀ w, Tabs w → Calls Tryd.prog 29 #[x] w fun e w' => e = .returned (.string want.s) ∧ Keeps [] w w'
  textN : (is && want.kind == 3) = false → ∀ w, Tabs w → Calls Tryd.prog 29 #[x] w (FellPost 3 (kindOf want is) w)

theorem kind_of_unbox {x : Value} {want : ValD} {is : Bool} (h : ∀ w, Tabs w → Calls Tryd.prog 15 #[x] w (UnboxPost want is w)) (w : World) (hT : Tabs w) :
    Calls Tryd.prog 16 #[x] w fun e w' => e = .returned (.int .i64 (kindOf want is)) ∧ Keeps [] w w' := by
  cases is
  · exact kind_no x want w (h w hT)
  · exact kind_yes x want w (h w hT)

/-- Asserted to be of that type it falls. -/
def Falls (x : Value) (t : TypeId) : Prop := ∀ w, ∃ u v o, (Instr.typeAssert x 20 t false).run Tryd.prog w = .halt (.panic (.iface u v)) (w.alloc o)

theorem boxOk {x : Value} {want : ValD} {is : Bool} (hU : ∀ w, Tabs w → Calls Tryd.prog 15 #[x] w (UnboxPost want is w))
    (hI : (is = true ∧ want.kind = 1 ∧ x = .iface 2 (.int .i64 want.n)) ∨ ((is && want.kind == 1) = false ∧ Falls x 2))
    (hB : (is = true ∧ want.kind = 2 ∧ x = .iface 4 (.bool (want.n == 1))) ∨ ((is && want.kind == 2) = false ∧ Falls x 4))
    (hX : (is = true ∧ want.kind = 3 ∧ x = .iface 9 (.string want.s) ∧ textOk want.s = true ∧ want.s.size ≤ 5000) ∨ ((is && want.kind == 3) = false ∧ Falls x 9) ∨ (is = false ∧ ∃ s, x = .iface 9 (.string s) ∧ textOk s = false ∧ s.size ≤ 5000)) : BoxOk x want is := by
  have hK := fun w hT => kind_of_unbox hU w hT
  refine ⟨hU, hK, fun h1 h2 w hT => ?_, fun h1 w hT => ?_, fun h1 h2 w hT => ?_, fun h1 w hT => ?_, fun h1 h2 w hT => ?_, fun h1 w hT => ?_⟩
  · rcases hI with ⟨_, _, rfl⟩ | ⟨h, _⟩
    · exact int_good _ w
    · simp [h1, h2] at h
  · rcases hI with ⟨g1, g2, _⟩ | ⟨_, h⟩
    · simp [g1, g2] at h1
    · exact int_fails x _ w (h w) fun wx kx => hK wx (hT.k kx)
  · rcases hB with ⟨_, _, rfl⟩ | ⟨h, _⟩
    · exact bool_good _ w
    · simp [h1, h2] at h
  · rcases hB with ⟨g1, g2, _⟩ | ⟨_, h⟩
    · simp [g1, g2] at h1
    · exact bool_fails x _ w (h w) fun wx kx => hK wx (hT.k kx)
  · rcases hX with ⟨_, _, rfl, ho, hs⟩ | ⟨h, _⟩ | ⟨h, _⟩
    · exact text_good _ w hT (by omega) ho
    · simp [h1, h2] at h
    · rw [h] at h1; cases h1
  · rcases hX with ⟨g1, g2, _⟩ | ⟨_, h⟩ | ⟨h, s, rfl, ho, hs⟩
    · simp [g1, g2] at h1
    · exact textA_fails x _ w (h w) fun wx kx => hK wx (hT.k kx)
    · subst h
      exact textB_fails s w hT (by omega) ho

theorem box_nil : BoxOk .nilIface val0 true := by
  refine boxOk (fun w _ => unbox_nil w) (.inr ⟨rfl, fun w => ⟨_, _, _, rfl⟩⟩) (.inr ⟨rfl, fun w => ⟨_, _, _, rfl⟩⟩) (.inr (.inl ⟨rfl, fun w => ⟨_, _, _, rfl⟩⟩))
theorem box_int (n : Int) : BoxOk (.iface 2 (.int .i64 n)) ⟨1, n, ⟨#[]⟩⟩ true := by
  refine boxOk (fun w _ => unbox_int n w) (.inl ⟨rfl, rfl, rfl⟩) (.inr ⟨rfl, fun w => ⟨_, _, _, rfl⟩⟩) (.inr (.inl ⟨rfl, fun w => ⟨_, _, _, rfl⟩⟩))
theorem box_true : BoxOk (.iface 4 (.bool true)) ⟨2, 1, ⟨#[]⟩⟩ true := by
  refine boxOk (fun w _ => unbox_true w) (.inr ⟨rfl, fun w => ⟨_, _, _, rfl⟩⟩) (.inl ⟨rfl, rfl, rfl⟩) (.inr (.inl ⟨rfl, fun w => ⟨_, _, _, rfl⟩⟩))
theorem box_false : BoxOk (.iface 4 (.bool false)) ⟨2, 0, ⟨#[]⟩⟩ true := by
  refine boxOk (fun w _ => unbox_false w) (.inr ⟨rfl, fun w => ⟨_, _, _, rfl⟩⟩) (.inl ⟨rfl, rfl, rfl⟩) (.inr (.inl ⟨rfl, fun w => ⟨_, _, _, rfl⟩⟩))
theorem box_text (s : ByteArray) (hs : s.size ≤ 5000) (ho : textOk s = true) : BoxOk (.iface 9 (.string s)) ⟨3, 0, s⟩ true := by
  refine boxOk (fun w hT => unbox_text s w hT (by omega) ho) (.inr ⟨rfl, fun w => ⟨_, _, _, rfl⟩⟩) (.inr ⟨rfl, fun w => ⟨_, _, _, rfl⟩⟩) (.inl ⟨rfl, rfl, rfl, ho, hs⟩)
theorem box_notext (s : ByteArray) (hs : s.size ≤ 5000) (ho : textOk s = false) : BoxOk (.iface 9 (.string s)) val0 false := by
  refine boxOk (fun w hT => unbox_notext s w hT (by omega) ho) (.inr ⟨rfl, fun w => ⟨_, _, _, rfl⟩⟩) (.inr ⟨rfl, fun w => ⟨_, _, _, rfl⟩⟩) (.inr (.inr ⟨rfl, s, rfl, ho, hs⟩))
theorem box_val (n : Int) (ho : checkD ⟨4, n, ⟨#[]⟩⟩ = true) : BoxOk (.iface 23 (.agg #[.int .i64 4, .int .i64 n, .string ⟨#[]⟩])) ⟨4, n, ⟨#[]⟩⟩ true := by
  refine boxOk (fun w hT => unbox_val n ⟨#[]⟩ w hT (by decide) ho) (.inr ⟨rfl, fun w => ⟨_, _, _, rfl⟩⟩) (.inr ⟨rfl, fun w => ⟨_, _, _, rfl⟩⟩) (.inr (.inl ⟨rfl, fun w => ⟨_, _, _, rfl⟩⟩))
theorem box_noval (n : Int) (ho : checkD ⟨4, n, ⟨#[]⟩⟩ = false) : BoxOk (.iface 23 (.agg #[.int .i64 4, .int .i64 n, .string ⟨#[]⟩])) val0 false := by
  refine boxOk (fun w hT => unbox_noval n ⟨#[]⟩ w hT (by decide) ho) (.inr ⟨rfl, fun w => ⟨_, _, _, rfl⟩⟩) (.inr ⟨rfl, fun w => ⟨_, _, _, rfl⟩⟩) (.inr (.inl ⟨rfl, fun w => ⟨_, _, _, rfl⟩⟩))
theorem box_okind (n : Int) : BoxOk (.iface 23 (.agg #[.int .i64 1, .int .i64 n, .string ⟨#[]⟩])) val0 false := by
  refine boxOk (fun w _ => unbox_okind 1 n ⟨#[]⟩ w rfl) (.inr ⟨rfl, fun w => ⟨_, _, _, rfl⟩⟩) (.inr ⟨rfl, fun w => ⟨_, _, _, rfl⟩⟩) (.inr (.inl ⟨rfl, fun w => ⟨_, _, _, rfl⟩⟩))
theorem box_goint (n : Int) : BoxOk (.iface 3 (.int .i64 n)) val0 false := by
  refine boxOk (fun w _ => unbox_goint n w) (.inr ⟨rfl, fun w => ⟨_, _, _, rfl⟩⟩) (.inr ⟨rfl, fun w => ⟨_, _, _, rfl⟩⟩) (.inr (.inl ⟨rfl, fun w => ⟨_, _, _, rfl⟩⟩))
theorem box_ptr (a : Option Addr) : BoxOk (.iface 73 (.pointer a)) val0 false := by
  refine boxOk (fun w _ => unbox_ptr a w) (.inr ⟨rfl, fun w => ⟨_, _, _, rfl⟩⟩) (.inr ⟨rfl, fun w => ⟨_, _, _, rfl⟩⟩) (.inr (.inl ⟨rfl, fun w => ⟨_, _, _, rfl⟩⟩))
theorem box_bytes (a : Option Addr) (n c : Nat) : BoxOk (.iface 50 (.slice a n c)) val0 false := by
  refine boxOk (fun w _ => unbox_bytes a n c w) (.inr ⟨rfl, fun w => ⟨_, _, _, rfl⟩⟩) (.inr ⟨rfl, fun w => ⟨_, _, _, rfl⟩⟩) (.inr (.inl ⟨rfl, fun w => ⟨_, _, _, rfl⟩⟩))
theorem box_float (x : Value) : BoxOk (.iface 74 x) val0 false := by
  refine boxOk (fun w _ => unbox_float x w) (.inr ⟨rfl, fun w => ⟨_, _, _, rfl⟩⟩) (.inr ⟨rfl, fun w => ⟨_, _, _, rfl⟩⟩) (.inr (.inl ⟨rfl, fun w => ⟨_, _, _, rfl⟩⟩))
theorem box_errno (n : Int) : BoxOk (.iface 75 (.int .i64 n)) val0 false := by
  refine boxOk (fun w _ => unbox_errno n w) (.inr ⟨rfl, fun w => ⟨_, _, _, rfl⟩⟩) (.inr ⟨rfl, fun w => ⟨_, _, _, rfl⟩⟩) (.inr (.inl ⟨rfl, fun w => ⟨_, _, _, rfl⟩⟩))

/-- The value that a box is (by which place k comes to); none, where the second says no. -/
def plainD (p n : Int) (s : ByteArray) : ValD × Bool :=
  if p = 0 then (val0, true) else if p = 1 then (⟨1, n, ⟨#[]⟩⟩, true) else if p = 2 then (⟨2, if n.tmod 2 = 0 then 1 else 0, ⟨#[]⟩⟩, true)
  else if p = 3 then (if checkD ⟨3, 0, s⟩ then (⟨3, 0, s⟩, true) else (val0, false)) else if p = 4 then (if checkD ⟨4, n, ⟨#[]⟩⟩ then (⟨4, n, ⟨#[]⟩⟩, true) else (val0, false)) else (val0, false)

end Go.Proofs.YtnekkkppjofdlaaDoor
