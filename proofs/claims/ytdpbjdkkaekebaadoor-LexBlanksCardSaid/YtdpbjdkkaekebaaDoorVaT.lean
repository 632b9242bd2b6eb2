/- The library's tables, as the walks want them; contracts of the library's functions, in the words of 'Keeps'. -/
import Derived.Test.YtdpbjdkkaekebaaDoorVaD
import Derived.Test.YtdpbjdkkaekebaaDoorBase
import Derived.Test.YtdpbjdkkaekebaaDoorShelf
import Derived.Lib.SmallJoins
namespace Go.Proofs.YtdpbjdkkaekebaaDoor
open Go Go.RowKit

/-- unicode/utf8's two tables and strconv's powers of ten lie as their initialisers lay them. -/
structure Tabs (w : World) : Prop where
  utf8 : Lib.Utf8Tabs 4 5 w
  pow : Lib.TabIs Tryd.prog w "internal/strconv.uint64pow10" .u64 Lib.pow10Tab
theorem Keeps.belowSize {w w' : World} (k : Keeps [] w w') : Below w.heap.size w w' := Keeps.below k (B := w.heap.size) (Nat.le_refl _) (fun _ h => absurd h (by simp))
theorem Keeps.ofBelowSize {w w' : World} (h : Below w.heap.size w w') : Keeps [] w w' := Keeps.ofBelow h (fun k (h1 : k < w.heap.size) (h2 : w.heap.size ≤ k) => absurd h1 (Nat.not_lt.2 h2))
theorem gPow : Tryd.prog.globalNamed "internal/strconv.uint64pow10" = some 3 := by kernel_rfl
theorem Tabs.k {w w' : World} (h : Tabs w) (k : Keeps [] w w') : Tabs w' := by
  exact ⟨⟨fun c hc => k.cellSome (h.utf8.1 c hc) (by simp), fun i hi => ⟨k.cellSome (h.utf8.2 i hi).1 (by simp), k.cellSome (h.utf8.2 i hi).2 (by simp)⟩⟩,
    Joins.tab_stays gPow h.pow k.belowSize (Nat.le_refl _)⟩
/-- strconv's two errors are there. -/
def Errs (w : World) : Prop := (∃ tp p, w.var? Tryd.prog "strconv.ErrSyntax" = some #[.iface tp p]) ∧ ∃ tp p, w.var? Tryd.prog "strconv.ErrRange" = some #[.iface tp p]

theorem uCount_any (s : ByteArray) (w : World) (hs : s.size < 9223372036854775807) : Calls Tryd.prog 53 #[.string s] w fun e w' => e = .returned (.int .i64 (Lib.runeCount s)) ∧ Keeps [] w w' :=
  (Tryd.utf8_RuneCountInString s w hs).mono fun _ _ ⟨h1, pos, h2⟩ => ⟨h1, by subst h2; exact (Keeps.refl [] w).alloc _⟩
theorem uDecode_any (s : ByteArray) (w : World) (hT : Tabs w) : Calls Tryd.prog 66 #[.string s] w fun e w' => e = .returned (.tuple #[.int .i32 (Lib.decodeGo s).1, .int .i64 (Lib.decodeGo s).2]) ∧ Keeps [] w w' :=
  (Tryd.utf8_DecodeRuneInString s w hT.utf8).mono fun _ _ h => ⟨h.1, Keeps.ofBelowSize h.2⟩
theorem Keeps.grow (w : World) (k : Nat) (os : Array Obj) : Keeps [] w (Sort.grow (w.drewN k) os) :=
  ⟨rfl, rfl, rfl, by show w.heap.size ≤ (w.heap ++ os).size; simp, fun j hj _ => by show (w.heap ++ os)[j]? = _; rw [Array.getElem?_append_left hj]⟩
theorem cFormat_any (n : Int) (h0 : -9223372036854775808 ≤ n) (h1 : n ≤ 9223372036854775807) (w : World) (hT : Tabs w) : Calls Tryd.prog 44 #[.int .i64 n, .int .i64 10] w fun e w' => e = .returned (.string ⟨(Lib.itoa n).toArray⟩) ∧ Keeps [] w w' :=
  (Tryd.strconv_FormatInt_10 n h0 h1 w hT.pow).mono fun _ _ ⟨h, k, os, hw⟩ => ⟨h, by subst hw; exact Keeps.grow w k os⟩

end Go.Proofs.YtdpbjdkkaekebaaDoor
