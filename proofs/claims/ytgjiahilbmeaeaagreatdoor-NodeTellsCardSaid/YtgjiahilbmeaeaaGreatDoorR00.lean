/- Joined of VaD, VaT, RfE0, VaQ, VaU, VaE, VaV, VaE2, VaF, VaH, VaX, RfC, RfF, RfH, RfI, RfJ. -/
import Derived.Lib.ValidLaws
import Derived.Lib.RuneCount
import Derived.WalkKit
import Derived.Test.YtgjiahilbmeaeaaGreatDoorQ00
import Derived.Test.YtgjiahilbmeaeaaGreatDoorShelf
import Derived.Lib.SmallJoins
import Derived.Lib.ItoaNum
import Derived.Test.YtgjiahilbmeaeaaGreatDoorQ03
import Derived.Lib.ItoaLen
import Derived.Lib.RuneBytes
import Derived.Lib.MapLaws
import Derived.Lib.Small
import Derived.Test.YtgjiahilbmeaeaaGreatDoorQ02
import Derived.Outline
import Derived.Test.YtgjiahilbmeaeaaGreatDoorQ01
import Derived.BigCall
import Derived.Deep.DeepMust
import Derived.Lib.ConvBytes
set_option maxRecDepth 100000
set_option maxHeartbeats 8000000
set_option linter.unusedSimpArgs false
set_option linter.unusedVariables false
/- Texts as pieces, values: plain Lean, no program in sight. -/
namespace Go.Proofs.YtgjiahilbmeaeaaGreatDoor
open Go
structure Pc where
 at_ : Nat
 n : Nat
 r : Nat
 bad : Bool
def badL (l : List UInt8) : Bool := (Lib.decodeL l).1 == 65533 && (Lib.decodeL l).2 == 1
def pcs : Nat → Nat → List UInt8 → List Pc
 | 0, _, _ => []
 | f + 1, p, l => if l = [] then [] else ⟨p, (Lib.decodeL l).2, (Lib.decodeL l).1, badL l⟩ :: pcs f (p + (Lib.decodeL l).2) (l.drop (Lib.decodeL l).2)
def pieces (l : List UInt8) : List Pc := pcs l.length 0 l
theorem pcs_nil : ∀ f p, pcs f p [] = []
 | 0, _ => rfl
 | _ + 1, _ => by simp [pcs]
theorem pcs_count (s : ByteArray) : ∀ (f p : Nat), (pcs f p (s.data.toList.drop p)).length = Lib.runeCountFrom s f p
 | 0, _ => rfl
 | f + 1, p => by
   unfold pcs Lib.runeCountFrom
   by_cases hp : p < s.size
   ·have hne : s.data.toList.drop p ≠ [] := by simp; exact hp
    rw [if_neg hne, if_pos hp, List.length_cons, List.drop_drop, pcs_count s f, Lib.decodeL_drop, Nat.add_comm]
   ·have he : s.data.toList.drop p = [] := by simp; show s.size ≤ p; omega
    rw [if_pos he, if_neg hp]; rfl
theorem pieces_count (s : ByteArray) : (pieces s.data.toList).length = Lib.runeCount s := by
 have := pcs_count s s.size 0
 simp at this
 exact this
open Classical in
open Classical in
def I64 (n : Int) : Prop := -9223372036854775808 ≤ n ∧ n ≤ 9223372036854775807
structure ValD where
 kind : Int
 n : Int
 s : ByteArray
def textOk (s : ByteArray) : Bool := decide (s.size ≤ 400) && (Lib.validD s.data.toList && decide (Lib.runeCount s ≤ 100))
def emptyB (s : ByteArray) : Bool := s.toList.isEmpty
def checkD (v : ValD) : Bool :=
 if v.kind = 0 then v.n == 0 && emptyB v.s else if v.kind = 1 then emptyB v.s else if v.kind = 2 then (v.n == 0 || v.n == 1) && emptyB v.s
 else if v.kind = 3 then v.n == 0 && textOk v.s else if v.kind = 4 then decide (1 ≤ v.n) && decide (v.n ≤ 4) && emptyB v.s else false
def fitsD (v : ValD) (t : Int) : Bool := checkD v && (v.kind == 0 || v.kind == t)
def val0 : ValD := ⟨0, 0, ⟨#[]⟩⟩
def valV (v : ValD) : Value := .agg #[.int .i64 v.kind, .int .i64 v.n, .string v.s]
theorem emptyB_data {s : ByteArray} (h : emptyB s = true) : s.data.toList = [] := by
 rw [← ByteArray.toList_eq]
 exact List.isEmpty_iff.1 h
open Go.RowKit
structure Tabs (w : World) : Prop where
 utf8 : Lib.Utf8Tabs 3 4 w
 pow : Lib.TabIs Tryz.prog w "internal/strconv.uint64pow10" .u64 Lib.pow10Tab
theorem Keeps.belowSize {w w' : World} (k : Keeps [] w w') : Below w.heap.size w w' := Keeps.below k (B := w.heap.size) (Nat.le_refl _) (fun _ h => absurd h (by simp))
theorem Keeps.ofBelowSize {w w' : World} (h : Below w.heap.size w w') : Keeps [] w w' := Keeps.ofBelow h (fun k (h1 : k < w.heap.size) (h2 : w.heap.size ≤ k) => absurd h1 (Nat.not_lt.2 h2))
theorem gPow : Tryz.prog.globalNamed "internal/strconv.uint64pow10" = some 5 := by kernel_rfl
theorem Tabs.k {w w' : World} (h : Tabs w) (k : Keeps [] w w') : Tabs w' := by
 exact ⟨⟨fun c hc => k.cellSome (h.utf8.1 c hc) (by simp), fun i hi => ⟨k.cellSome (h.utf8.2 i hi).1 (by simp), k.cellSome (h.utf8.2 i hi).2 (by simp)⟩⟩,
  Joins.tab_stays gPow h.pow k.belowSize (Nat.le_refl _)⟩
def Errs (w : World) : Prop := (∃ tp p, w.var? Tryz.prog "strconv.ErrSyntax" = some #[.iface tp p]) ∧ ∃ tp p, w.var? Tryz.prog "strconv.ErrRange" = some #[.iface tp p]
theorem uCount_any (s : ByteArray) (w : World) (hs : s.size < 9223372036854775807) : Calls Tryz.prog 229 #[.string s] w fun e w' => e = .returned (.int .i64 (Lib.runeCount s)) ∧ Keeps [] w w' :=
 (Tryz.utf8_RuneCountInString s w hs).mono fun _ _ ⟨h1, pos, h2⟩ => ⟨h1, by subst h2; exact (Keeps.refl [] w).alloc _⟩
theorem uDecode_any (s : ByteArray) (w : World) (hT : Tabs w) : Calls Tryz.prog 262 #[.string s] w fun e w' => e = .returned (.tuple #[.int .i32 (Lib.decodeGo s).1, .int .i64 (Lib.decodeGo s).2]) ∧ Keeps [] w w' :=
 (Tryz.utf8_DecodeRuneInString s w hT.utf8).mono fun _ _ h => ⟨h.1, Keeps.ofBelowSize h.2⟩
theorem byte_drop (s : ByteArray) (i : Nat) (h : i < s.size) : s.data.toList.drop i = s[i]'h :: s.data.toList.drop (i + 1) := by
 have hl : i < s.data.toList.length := by rw [Array.length_toList]; exact h
 rw [List.drop_eq_getElem_cons hl]
 rfl
end Go.Proofs.YtgjiahilbmeaeaaGreatDoor
/- A text between quotes: plain. -/
namespace Go.Proofs.YtgjiahilbmeaeaaGreatDoor
open Go
def ctlR (r : Nat) : Bool := decide (r < 32) || (decide (127 ≤ r) && decide (r ≤ 159))
theorem decodeN_valid (n b0 b1 b2 b3 : Nat) : (Lib.decodeN n b0 b1 b2 b3).1 < 55296 ∨ (57344 ≤ (Lib.decodeN n b0 b1 b2 b3).1 ∧ (Lib.decodeN n b0 b1 b2 b3).1 ≤ 1114111) := by
 unfold Lib.decodeN
 repeat' split
 all_goals simp only
 all_goals omega
theorem decodeL_valid (l : List UInt8) : (Lib.decodeL l).1 < 55296 ∨ (57344 ≤ (Lib.decodeL l).1 ∧ (Lib.decodeL l).1 ≤ 1114111) := by
 rw [Lib.decodeL_N]; exact decodeN_valid _ _ _ _ _
theorem enc1 (r : Nat) (h : r < 128) : Lib.encodeRune (r : Int) = [UInt8.ofNat r] := by
 unfold Lib.encodeRune
 rw [Lib.encodeRuneZ_one (by omega) (by omega)]
 simp
theorem ofNat_toNat (n : Nat) (h : n < 256) : (UInt8.ofNat n).toNat = n := by
 simp
 omega
open Go.RowKit
theorem ruCount_any (s : ByteArray) (w : World) (hs : s.size < 9223372036854775807) :
 Calls Tryz.prog 190 #[.string s] w fun e w' => e = .returned (.int .i64 (Lib.runeCount s)) ∧ Keeps [] w w' := by
 go_enter Tryz.func190, Tryz.ntmps190
 go_wp2_with fail
 refine (uCount_any s w hs).mono ?_
 rintro e w1 ⟨rfl, hk⟩
 have HK := hid hk
 clear hk
 go_wp2_with fail
 go_ret
 exact ⟨rfl, HK.out⟩
theorem uValid_any (s : ByteArray) (w : World) (hs : s.size ≤ 9223372036854775807) (hT : Tabs w) : Calls Tryz.prog 277 #[.string s] w fun e w' => e = .returned (.bool (Lib.validD s.data.toList)) ∧ Keeps [] w w' :=
 (Any.utf8_ValidString Tryz.laysValid s w hs hT.utf8).mono fun _ _ h => ⟨h.1, Keeps.ofBelowSize h.2⟩
theorem ruValid_any (s : ByteArray) (w : World) (hs : s.size ≤ 9223372036854775807) (hT : Tabs w) :
 Calls Tryz.prog 253 #[.string s] w fun e w' => e = .returned (.bool (Lib.validD s.data.toList)) ∧ Keeps [] w w' := by
 have HT := hid hT
 clear hT
 go_enter Tryz.func253, Tryz.ntmps253
 go_wp2_with fail
 refine (uValid_any s w hs HT.out).mono ?_
 rintro e w1 ⟨rfl, hk⟩
 have HK := hid hk
 clear hk
 go_wp2_with fail
 go_ret
 exact ⟨rfl, HK.out⟩
theorem textOk_no1 {s : ByteArray} (h : ¬ s.size ≤ 400) : textOk s = false := by unfold textOk; simp [h]
theorem textOk_no2 {s : ByteArray} (h : Lib.validD s.data.toList = false) : textOk s = false := by unfold textOk; simp [h]
theorem textOk_yes {s : ByteArray} (h : s.size ≤ 400) (h2 : Lib.validD s.data.toList = true) : textOk s = decide ((Lib.runeCount s : Int) ≤ 100) := by
 unfold textOk
 rw [h2, decide_eq_true h, Bool.true_and, Bool.true_and, Bool.eq_iff_iff]
 simp
 omega
theorem vtext_any (s : ByteArray) (w : World) (hs : s.size ≤ 9223372036854775806) (hT : Tabs w) :
 Calls Tryz.prog 219 #[.string s] w fun e w' => e = .returned (.bool (textOk s)) ∧ Keeps [] w w' := by
 have HT := hid hT
 clear hT
 by_cases h4 : s.size ≤ 400
 ·have g4 : (s.size : Int) ≤ 400 := by omega
  rcases hv : Lib.validD s.data.toList with _ | _
  ·have HB : Hid (textOk s = false) := textOk_no2 hv
   have HV := hid hv
   clear hv
   go_enter Tryz.func219, Tryz.ntmps219
   go_wp2_with fail
   refine (ruValid_any s w (by omega) HT.out).mono ?_
   rintro e w1 ⟨rfl, hk⟩
   rw [HV.out]
   have HK := hid hk
   clear hk
   go_wp2_with fail
   go_ret
   exact ⟨by rw [HB.out]; rfl, HK.out⟩
  ·have HB : Hid (textOk s = decide ((Lib.runeCount s : Int) ≤ 100)) := textOk_yes h4 hv
   have HV := hid hv
   clear hv
   go_enter Tryz.func219, Tryz.ntmps219
   go_wp2_with fail
   refine (ruValid_any s w (by omega) HT.out).mono ?_
   rintro e w1 ⟨rfl, hk⟩
   rw [HV.out]
   have HK := hid hk
   clear hk
   go_wp2_with fail
   refine (ruCount_any s _ (by omega)).mono ?_
   rintro e w2 ⟨rfl, hk⟩
   have HK2 : Hid (Keeps [] w w2) := HK.out.trans hk (fun _ _ h => h)
   clear hk HK
   go_wp2_with fail
   go_ret
   exact ⟨by rw [HB.out]; rfl, HK2.out⟩
 ·have g4 : (400 : Int) < (s.size : Int) := by omega
  have HB : Hid (textOk s = false) := textOk_no1 h4
  clear h4
  go_enter Tryz.func219, Tryz.ntmps219
  go_wp2_with fail
  go_ret
  exact ⟨by rw [HB.out]; rfl, Keeps.refl [] w⟩
theorem checkD_k {v : ValD} {k : Int} (h : v.kind = k) (b : Bool) (hb : (if k = 0 then v.n == 0 && emptyB v.s else if k = 1 then emptyB v.s else if k = 2 then (v.n == 0 || v.n == 1) && emptyB v.s else if k = 3 then v.n == 0 && textOk v.s else if k = 4 then decide (1 ≤ v.n) && decide (v.n ≤ 4) && emptyB v.s else false) = b) : checkD v = b := by
 subst h
 exact hb
theorem vCheck_any (v : ValD) (w : World) (hT : Tabs w) (hs : v.s.size ≤ 9223372036854775806) :
 Calls Tryz.prog 173 #[valV v] w fun e w' => e = .returned (.bool (checkD v)) ∧ Keeps [] w w' := by
 have HT := hid hT
 clear hT
 obtain ⟨k, n, s⟩ := v
 unfold valV
 by_cases k0 : k = 0
 ·subst k0
  rcases hn : (n == 0) with _ | _
  all_goals
   have HB := hid (checkD_k (v := ⟨0, n, s⟩) rfl _ rfl)
   simp only [hn] at HB
   go_enter Tryz.func173, Tryz.ntmps173
   go_wp2_with fail
   go_ret
   exact ⟨by rw [HB.out]; rfl, Keeps.K⟩
 by_cases k1 : k = 1
 ·subst k1
  have HB := hid (checkD_k (v := ⟨1, n, s⟩) rfl _ rfl)
  go_enter Tryz.func173, Tryz.ntmps173
  go_wp2_with fail
  go_ret
  exact ⟨by rw [HB.out]; rfl, Keeps.K⟩
 by_cases k2 : k = 2
 ·subst k2
  rcases hn : (n == 0) with _ | _
  ·rcases hm : (n == 1) with _ | _
   all_goals
    have HB := hid (checkD_k (v := ⟨2, n, s⟩) rfl _ rfl)
    simp only [hn, hm] at HB
    go_enter Tryz.func173, Tryz.ntmps173
    go_wp2_with fail
    go_ret
    exact ⟨by rw [HB.out]; rfl, Keeps.K⟩
  ·have HB := hid (checkD_k (v := ⟨2, n, s⟩) rfl _ rfl)
   simp only [hn] at HB
   go_enter Tryz.func173, Tryz.ntmps173
   go_wp2_with fail
   go_ret
   exact ⟨by rw [HB.out]; rfl, Keeps.K⟩
 by_cases k3 : k = 3
 ·subst k3
  rcases hn : (n == 0) with _ | _
  ·have HB := hid (checkD_k (v := ⟨3, n, s⟩) rfl _ rfl)
   simp only [hn] at HB
   go_enter Tryz.func173, Tryz.ntmps173
   go_wp2_with fail
   go_ret
   exact ⟨by rw [HB.out]; rfl, Keeps.K⟩
  ·have HB := hid (checkD_k (v := ⟨3, n, s⟩) rfl _ rfl)
   simp only [hn] at HB
   go_enter Tryz.func173, Tryz.ntmps173
   go_wp2_with fail
   refine (vtext_any s _ hs (HT.out.k (by exact Keeps.K))).mono ?_
   rintro e w1 ⟨rfl, hk⟩
   have HK : Hid (Keeps [] w w1) := Keeps.trans (by exact Keeps.K) hk (fun _ _ h => h)
   clear hk
   go_wp2_with fail
   go_ret
   exact ⟨by rw [HB.out]; rfl, HK.out⟩
 by_cases k4 : k = 4
 ·subst k4
  have hc : n < 1 ∨ (1 ≤ n ∧ 4 < n) ∨ (1 ≤ n ∧ n ≤ 4) := by omega
  rcases hc with c0 | ⟨c0, c1⟩ | ⟨c0, c1⟩
  ·have HB := hid (checkD_k (v := ⟨4, n, s⟩) rfl _ rfl)
   simp only [show decide (1 ≤ n) = false by simp; omega] at HB
   go_enter Tryz.func173, Tryz.ntmps173
   go_wp2_with fail
   go_ret
   exact ⟨by rw [HB.out]; rfl, Keeps.K⟩
  ·have HB := hid (checkD_k (v := ⟨4, n, s⟩) rfl _ rfl)
   simp only [show decide (1 ≤ n) = true by simp; omega, show decide (n ≤ 4) = false by simp; omega] at HB
   go_enter Tryz.func173, Tryz.ntmps173
   go_wp2_with fail
   go_ret
   exact ⟨by rw [HB.out]; rfl, Keeps.K⟩
  ·have HB := hid (checkD_k (v := ⟨4, n, s⟩) rfl _ rfl)
   simp only [show decide (1 ≤ n) = true by simp; omega, show decide (n ≤ 4) = true by simp; omega] at HB
   go_enter Tryz.func173, Tryz.ntmps173
   go_wp2_with fail
   go_ret
   exact ⟨by rw [HB.out]; rfl, Keeps.K⟩
 have HB : Hid (checkD ⟨k, n, s⟩ = false) := by show (if k = 0 then _ else if k = 1 then _ else if k = 2 then _ else if k = 3 then _ else if k = 4 then _ else false) = false; rw [if_neg k0, if_neg k1, if_neg k2, if_neg k3, if_neg k4]
 have e0 : (k == 0) = false := by simpa using k0
 have e1 : (k == 1) = false := by simpa using k1
 have e2 : (k == 2) = false := by simpa using k2
 have e3 : (k == 3) = false := by simpa using k3
 have e4 : (k == 4) = false := by simpa using k4
 clear k0 k1 k2 k3 k4
 go_enter Tryz.func173, Tryz.ntmps173
 go_wp2_with fail
 go_ret
 exact ⟨by rw [HB.out]; rfl, Keeps.K⟩
theorem vFits_any (v : ValD) (t : Int) (w : World) (hT : Tabs w) (hs : v.s.size ≤ 9223372036854775806) :
 Calls Tryz.prog 177 #[valV v, .int .i64 t] w fun e w' => e = .returned (.bool (fitsD v t)) ∧ Keeps [] w w' := by
 have HT := hid hT
 have HS : Hid (v.s.size ≤ 9223372036854775806) := hs
 have HC := vCheck_any v
 obtain ⟨c, hc⟩ : ∃ c, checkD v = c := ⟨_, rfl⟩
 have HX : Hid (fitsD v t = (c && (v.kind == 0 || v.kind == t))) := by show _ = _; unfold fitsD; rw [hc]
 rw [hc] at HC
 obtain ⟨k, n, s⟩ := v
 have HC' := hid HC
 clear hT hs HC hc
 unfold valV at HC' ⊢
 simp only at HX HS
 rcases c with _ | _
 ·go_enter Tryz.func177, Tryz.ntmps177
  go_wp2_with fail
  refine (HC'.out _ (HT.out.k (by exact Keeps.K)) HS.out).mono ?_
  rintro e w1 ⟨rfl, hk⟩
  have HK : Hid (Keeps [] w w1) := Keeps.trans (by exact Keeps.K) hk (fun _ _ h => h)
  clear hk
  go_wp2_with fail
  go_ret
  exact ⟨by rw [HX.out]; rfl, HK.out⟩
 ·by_cases k0 : k = 0
  ·subst k0
   go_enter Tryz.func177, Tryz.ntmps177
   go_wp2_with fail
   refine (HC'.out _ (HT.out.k (by exact Keeps.K)) HS.out).mono ?_
   rintro e w1 ⟨rfl, hk⟩
   have c0 : w1.cell? ⟨w.heap.size, 0, none⟩ = some (.int .i64 0) := hk.cellSome (by go_simp) (by simp)
   have HK : Hid (Keeps [] w w1) := Keeps.trans (by exact Keeps.K) hk (fun _ _ h => h)
   clear hk
   go_wp2_with fail
   go_ret
   exact ⟨by rw [HX.out]; rfl, HK.out⟩
  ·have e0 : (k == 0) = false := by simpa using k0
   clear k0
   rw [e0] at HX
   go_enter Tryz.func177, Tryz.ntmps177
   go_wp2_with fail
   refine (HC'.out _ (HT.out.k (by exact Keeps.K)) HS.out).mono ?_
   rintro e w1 ⟨rfl, hk⟩
   have c0 : w1.cell? ⟨w.heap.size, 0, none⟩ = some (.int .i64 k) := hk.cellSome (by go_simp) (by simp)
   have HK : Hid (Keeps [] w w1) := Keeps.trans (by exact Keeps.K) hk (fun _ _ h => h)
   clear hk
   go_wp2_with fail
   go_ret
   exact ⟨by rw [HX.out]; rfl, HK.out⟩
def bytes (l : List UInt8) : ByteArray := ⟨l.toArray⟩
end Go.Proofs.YtgjiahilbmeaeaaGreatDoor
/- A quoted text read again; shown values are unlike: plain. -/
namespace Go.Proofs.YtgjiahilbmeaeaaGreatDoor
open Go
def hexV (b : UInt8) : Option Nat := if 48 ≤ b.toNat ∧ b.toNat ≤ 57 then some (b.toNat - 48) else if 97 ≤ b.toNat ∧ b.toNat ≤ 102 then some (b.toNat - 87) else none
def escL : List UInt8 → Nat × Nat
 | _ :: b :: t =>
   if b.toNat = 34 ∨ b.toNat = 92 then (b.toNat, 2) else if b.toNat = 117 then
    match t with
    | h1 :: h2 :: h3 :: h4 :: _ =>
      match hexV h1, hexV h2, hexV h3, hexV h4 with
      | some a, some b, some c, some d => if 55296 ≤ ((a * 16 + b) * 16 + c) * 16 + d ∧ ((a * 16 + b) * 16 + c) * 16 + d ≤ 57343 then (0, 0) else (((a * 16 + b) * 16 + c) * 16 + d, 6)
      | _, _, _, _ => (0, 0)
    | _ => (0, 0)
   else (0, 0)
 | _ => (0, 0)
def unqGo : Nat → List UInt8 → List UInt8 → Nat → Option (List UInt8 × Nat)
 | 0, _, _, _ => none
 | f + 1, l, acc, p =>
   if l = [] then none else if (Lib.decodeL l).1 = 34 then some (acc, p + 1)
   else if (Lib.decodeL l).1 = 92 then (if (escL l).2 = 0 then none else unqGo f (l.drop (escL l).2) (acc ++ Lib.encodeRune ((escL l).1 : Int)) (p + (escL l).2))
   else if ((Lib.decodeL l).1 = 65533 ∧ (Lib.decodeL l).2 = 1) ∨ ctlR (Lib.decodeL l).1 = true then none
   else unqGo f (l.drop (Lib.decodeL l).2) (acc ++ Lib.encodeRune ((Lib.decodeL l).1 : Int)) (p + (Lib.decodeL l).2)
def unqL (l : List UInt8) : Option (List UInt8 × Nat) :=
 match l with
 | [] => none
 | b :: t => if b.toNat = 34 then unqGo (t.length + 1) t [] 1 else none
theorem unqGo_succ (f : Nat) (l acc : List UInt8) (p : Nat) : unqGo (f + 1) l acc p =
 if l = [] then none else if (Lib.decodeL l).1 = 34 then some (acc, p + 1)
 else if (Lib.decodeL l).1 = 92 then (if (escL l).2 = 0 then none else unqGo f (l.drop (escL l).2) (acc ++ Lib.encodeRune ((escL l).1 : Int)) (p + (escL l).2))
 else if ((Lib.decodeL l).1 = 65533 ∧ (Lib.decodeL l).2 = 1) ∨ ctlR (Lib.decodeL l).1 = true then none
 else unqGo f (l.drop (Lib.decodeL l).2) (acc ++ Lib.encodeRune ((Lib.decodeL l).1 : Int)) (p + (Lib.decodeL l).2) := rfl
theorem decode_byte (b : UInt8) (t : List UInt8) (h : b.toNat < 128) : Lib.decodeL (b :: t) = (b.toNat, 1) := by
 rw [Lib.decodeL_N]
 simp only [List.getD_cons_zero]
 rw [Lib.decodeN_ascii _ _ _ _ _ h]
theorem checkD_cases {v : ValD} (h : checkD v = true) : (v.kind = 0 ∧ v.n = 0 ∧ v.s = ⟨#[]⟩) ∨ (v.kind = 1 ∧ v.s = ⟨#[]⟩) ∨ (v.kind = 2 ∧ (v.n = 0 ∨ v.n = 1) ∧ v.s = ⟨#[]⟩) ∨ (v.kind = 3 ∧ v.n = 0 ∧ Lib.validD v.s.data.toList = true) ∨ (v.kind = 4 ∧ v.s = ⟨#[]⟩) := by
 have he : emptyB v.s = true → v.s = ⟨#[]⟩ := fun h => by
  have h1 := emptyB_data h
  obtain ⟨k, n, ⟨⟨s⟩⟩⟩ := v
  simp at h1 ⊢
  exact h1
 unfold checkD at h
 repeat' split at h
 ·simp at h; exact .inl ⟨by assumption, h.1, he h.2⟩
 ·exact .inr (.inl ⟨by assumption, he h⟩)
 ·simp at h; exact .inr (.inr (.inl ⟨by assumption, h.1, he h.2⟩))
 ·simp [textOk] at h; exact .inr (.inr (.inr (.inl ⟨by assumption, h.1, h.2.2.1⟩)))
 ·simp at h; exact .inr (.inr (.inr (.inr ⟨by assumption, he h.2⟩)))
 ·cases h
open Go.RowKit
theorem extract_str (s : ByteArray) (p n : Nat) : s.extract p (p + n) = str ((s.data.toList.drop p).take n) := by
 refine ByteArray.ext ?_
 rw [ByteArray.data_extract]
 apply Array.toList_inj.1
 simp [str, Array.toList_extract, List.take_drop]
def hx : List UInt8 → Nat → Option Nat
 | [], v => some v
 | c :: r, v => match hexV c with
   | none => none
   | some d => hx r (v * 16 + d)
theorem bits_or_i32_nat (a b : Nat) (ha : a < 2147483648) (hb : b < 2147483648) : bits .or .i32 (a : Int) (b : Int) = ((a ||| b : Nat) : Int) := by
 have hx : a ||| b < 2 ^ 31 := Nat.or_lt_two_pow (by omega) (by omega)
 have h1 : (BitVec.ofInt 32 (a : Int)).toNat = a := by
  rw [BitVec.ofInt_natCast, BitVec.toNat_ofNat]; exact Nat.mod_eq_of_lt (by omega)
 have h2 : (BitVec.ofInt 32 (b : Int)).toNat = b := by
  rw [BitVec.ofInt_natCast, BitVec.toNat_ofNat]; exact Nat.mod_eq_of_lt (by omega)
 show IntKind.i32.wrap ((BitVec.ofInt 32 (a : Int) ||| BitVec.ofInt 32 (b : Int)).toNat : Int) = _
 rw [BitVec.toNat_or, h1, h2, IntKind.wrap_i32]
 omega
theorem or16 (n d : Nat) (hn : n ≤ 4095) (hd : d < 16) : bits .or .i32 ((n : Int) * 16) (d : Int) = ((n * 16 + d : Nat) : Int) := by
 have e : (n : Int) * 16 = ((n * 16 : Nat) : Int) := by push_cast; rfl
 rw [e, bits_or_i32_nat _ _ (by omega) (by omega)]
 congr 1
 have h4 : d < 2 ^ 4 := by omega
 have := Nat.two_pow_add_eq_or_of_lt h4 n
 rw [Nat.mul_comm n 16, show (16 : Nat) = 2 ^ 4 from rfl, ← this]
theorem idx_fin : ∀ c : Fin 256, Lib.indexByte [48, 49, 50, 51, 52, 53, 54, 55, 56, 57, 97, 98, 99, 100, 101, 102] (UInt8.ofNat c.val) = match hexV (UInt8.ofNat c.val) with
 | none => -1
 | some d => (d : Int) := by decide +kernel
theorem idx_hex (c : UInt8) : Lib.indexByte [48, 49, 50, 51, 52, 53, 54, 55, 56, 57, 97, 98, 99, 100, 101, 102] c = match hexV c with
 | none => -1
 | some d => (d : Int) := by
 have h := idx_fin ⟨c.toNat, c.toNat_lt⟩
 have e : UInt8.ofNat c.toNat = c := UInt8.toNat_inj.1 (by rw [ofNat_toNat _ c.toNat_lt])
 simp only [e] at h
 exact h
theorem hexV_lt {c : UInt8} {d : Nat} (h : hexV c = some d) : d < 16 := by
 unfold hexV at h
 split at h
 ·injection h with h; omega
 ·split at h
  ·injection h with h; omega
  ·cases h
theorem escL_hx {a b : UInt8} {t : List UInt8} (h1 : ¬ (b.toNat = 34 ∨ b.toNat = 92)) (h2 : b.toNat = 117) (h4 : 4 ≤ t.length) : escL (a :: b :: t) = match hx (t.take 4) 0 with
 | none => (0, 0)
 | some v => if 55296 ≤ v ∧ v ≤ 57343 then (0, 0) else (v, 6) := by
 match t, h4 with
 | x :: y :: z :: u :: r, _ =>
   show (if b.toNat = 34 ∨ b.toNat = 92 then (b.toNat, 2) else if b.toNat = 117 then _ else _) = _
   rw [if_neg h1, if_pos h2]
   show (match hexV x, hexV y, hexV z, hexV u with
    | some a, some b, some c, some d => if 55296 ≤ ((a * 16 + b) * 16 + c) * 16 + d ∧ ((a * 16 + b) * 16 + c) * 16 + d ≤ 57343 then (0, 0) else (((a * 16 + b) * 16 + c) * 16 + d, 6)
    | _, _, _, _ => (0, 0)) = match hx [x, y, z, u] 0 with
    | none => (0, 0)
    | some v => if 55296 ≤ v ∧ v ≤ 57343 then (0, 0) else (v, 6)
   simp only [hx]
   rcases hexV x with _ | a <;> rcases hexV y with _ | b <;> rcases hexV z with _ | c <;> rcases hexV u with _ | d <;> simp
theorem keeps_bytes (w : World) (e : TypeId) (q : ByteArray) : Keeps [] w (Lib.bytesWorld w e q) :=
 ⟨rfl, rfl, rfl, by rw [Lib.bytesWorld_size]; omega, fun k hk _ => Lib.bytesWorld_at_old w e q k hk⟩
theorem escape_hex (s : ByteArray) (w : World) (h6 : 6 ≤ s.size) (hs : s.size ≤ 1000000) (b : UInt8) (hb : s[1]'(by omega) = b) (hn : ((b.toNat : Int) == 117) = true) (c1 : ((b.toNat : Int) == 34) = false) (c2 : ((b.toNat : Int) == 92) = false) :
 Calls Tryz.prog 227 #[.string s] w fun e w' => e = .returned (.tuple #[.int .i32 (escL s.data.toList).1, .int .i64 (escL s.data.toList).2]) ∧ Keeps [] w w' := by
 have h6' : (6 : Int) ≤ (s.size : Int) := by omega
 have hn1 : (b.toNat : Int) = 117 := by simpa using hn
 have hn2 : ((b.toNat : Int) != 117) = false := by rw [bne, hn]; rfl
 have hl : s.data.toList.length = s.size := Array.length_toList
 obtain ⟨q, hq⟩ : ∃ q, s.extract 2 6 = q := ⟨_, rfl⟩
 have hq4 : q.size = 4 := by rw [← hq, ByteArray.size_extract]; omega
 have hql : q.data.toList = (s.data.toList.drop 2).take 4 := by
  have := extract_str s 2 4
  rw [hq] at this
  rw [this]; rfl
 have HE : Hid (escL s.data.toList = match hx q.data.toList 0 with
  | none => (0, 0)
  | some v => if 55296 ≤ v ∧ v ≤ 57343 then (0, 0) else (v, 6)) := by
  show _ = _
  have e0 := byte_drop s 0 (by omega)
  have e1 := byte_drop s 1 (by omega)
  rw [List.drop_zero] at e0
  rw [hb] at e1
  rw [e0, e1, escL_hx (by omega) (by omega) (by rw [List.length_drop, hl]; omega), ← hql]
 have hcv := Lib.run_convert_string_bytes (P := Tryz.prog) w 9 27 5 q Tryz.underlying9 Tryz.underlying27 Tryz.underlying5
 rw [hq4] at hcv
 obtain ⟨cap, hcap⟩ : ∃ cap, grownCap w 4 0 5 = cap := ⟨_, rfl⟩
 rw [hcap] at hcv
 have HC : Hid (∀ j, j < 4 → (Lib.bytesWorld w 5 q).cell? ⟨w.heap.size, j, none⟩ = some (.int .u8 (q.data.toList.getD j 0).toNat)) := fun j hj => Lib.bytesWorld_cell w 5 q j (by omega)
 have HKB : Hid (Keeps [] w (Lib.bytesWorld w 5 q)) := keeps_bytes w 5 q
 obtain ⟨wB, hwB⟩ : ∃ wB, Lib.bytesWorld w 5 q = wB := ⟨_, rfl⟩
 rw [hwB] at hcv HC HKB
 have HQL : Hid (q.data.toList.length = 4) := (Array.length_toList.trans hq4 : q.data.toList.length = 4)
 clear hl hql hwB hcap
 go_enter Tryz.func227, Tryz.ntmps227
 go_wp2_with fail
 clear hcv hq hq4
 go_loopw [36, 4] (fun iv nv wr => ∃ (j n : Nat), j ≤ 4 ∧ n < 16 ^ j ∧ iv = .int .i64 j ∧ nv = .int .i32 n ∧ Hid (hx q.data.toList 0 = hx (q.data.toList.drop j) n ∧ wr = wB)) (fun iv _ _ => 4 - (intOf iv).toNat)
 case atStart => exact ⟨0, 0, by omega, by simp, rfl, rfl, rfl, rfl⟩
 case round =>
  obtain ⟨j, n, hj, hnj, rfl, rfl, HV⟩ := hrel
  have j0 : (0 : Int) ≤ (j : Int) := Int.natCast_nonneg _
  have n0 : (0 : Int) ≤ (n : Int) := Int.natCast_nonneg _
  have hn5 : n ≤ 65535 := by
   have h : 16 ^ j ≤ 16 ^ 4 := Nat.pow_le_pow_right (by decide) hj
   have e : (16 : Nat) ^ 4 = 65536 := by decide
   omega
  obtain rfl := HV.out.2
  by_cases hj4 : j < 4
  ·have hj4' : (j : Int) < 4 := by omega
   have hn3 : n ≤ 4095 := by
    have h : 16 ^ j ≤ 16 ^ 3 := Nat.pow_le_pow_right (by decide) (by omega)
    have e : (16 : Nat) ^ 3 = 4096 := by decide
    omega
   have hnI : (n : Int) ≤ 4095 := by omega
   have y := HC.out j hj4
   obtain ⟨c, hc⟩ : ∃ c, q.data.toList.getD j 0 = c := ⟨_, rfl⟩
   rw [hc] at y
   have HA : Hid (q.data.toList.drop j = c :: q.data.toList.drop (j + 1)) := by
    show _ = _
    have hlt : j < q.data.toList.length := by rw [HQL.out]; exact hj4
    rw [List.drop_eq_getElem_cons hlt]
    congr 1
    rw [← hc, List.getD_eq_getElem?_getD, List.getElem?_eq_getElem hlt]
    rfl
   have c256 : c.toNat < 256 := c.toNat_lt
   have HI : Hid (Lib.indexByte [48, 49, 50, 51, 52, 53, 54, 55, 56, 57, 97, 98, 99, 100, 101, 102] ((c.toNat : Int)).toNat.toUInt8 = match hexV c with
    | none => -1
    | some d => (d : Int)) := by
    show _ = _
    rw [← idx_hex c]
    congr 1
    exact UInt8.toNat_inj.1 (by simp)
   have HNJ := hid hnj
   clear hc hn5 hn3 hnj
   go_wp2_with fail
   refine (Tryz.strings_IndexByte _ _ _).mono ?_
   rintro e w2 ⟨rfl, rfl⟩
   rw [show (⟨#[48, 49, 50, 51, 52, 53, 54, 55, 56, 57, 97, 98, 99, 100, 101, 102]⟩ : ByteArray).data.toList = [48, 49, 50, 51, 52, 53, 54, 55, 56, 57, 97, 98, 99, 100, 101, 102] from rfl, HI.out]
   rcases hh : hexV c with _ | d
   ·dsimp only
    have HE2 : Hid (escL s.data.toList = (0, 0)) := by
     show _ = _
     have e : hx q.data.toList 0 = none := by
      rw [HV.out.1, HA.out]
      show (match hexV c with | none => none | some d => hx _ (n * 16 + d)) = _
      rw [hh]
     rw [HE.out, e]
    clear hh
    go_wp2_with fail
    go_ret2
    exact ⟨by rw [HE2.out]; rfl, HKB.out⟩
   ·dsimp only
    have hd := hexV_lt hh
    have hdI : (d : Int) < 16 := by omega
    have d0 : (0 : Int) ≤ (d : Int) := Int.natCast_nonneg _
    have hor := or16 n d (by omega) hd
    have HS : Hid (hx q.data.toList 0 = hx (q.data.toList.drop (j + 1)) (n * 16 + d)) := by
     show _ = _
     rw [HV.out.1, HA.out]
     show (match hexV c with | none => none | some d => hx _ (n * 16 + d)) = _
     rw [hh]
    clear hh hd
    go_wp2_with fail
    exact ⟨⟨j + 1, n * 16 + d, by omega, by have h := HNJ.out; rw [Nat.pow_succ]; omega, by simp, by simp, HS.out, trivial⟩, by simp [intOf]; omega⟩
  ·have hj4' : (4 : Int) ≤ (j : Int) := by omega
   obtain rfl : j = 4 := by omega
   have HX : Hid (hx q.data.toList 0 = some n) := by
    show _ = _
    rw [HV.out.1, List.drop_of_length_le (by rw [HQL.out]; omega)]
    rfl
   clear hnj
   by_cases hsur : 55296 ≤ n ∧ n ≤ 57343
   ·have HE2 : Hid (escL s.data.toList = (0, 0)) := by
     show _ = _
     rw [HE.out, HX.out]
     exact if_pos hsur
    have b1 : (55296 : Int) ≤ (n : Int) := by omega
    have b2 : (n : Int) ≤ 57343 := by omega
    clear hsur
    go_wp2_with fail
    go_ret2
    exact ⟨by rw [HE2.out]; rfl, HKB.out⟩
   ·have HE2 : Hid (escL s.data.toList = (n, 6)) := by
     show _ = _
     rw [HE.out, HX.out]
     exact if_neg hsur
    have hb : ((55296 : Int) ≤ (n : Int)) = False ∨ ((55296 : Int) ≤ (n : Int) ∧ ((n : Int) ≤ 57343) = False) := by simp; omega
    clear hsur
    rcases hb with b1 | ⟨b1, b2⟩
    all_goals
     go_wp2_with fail
     go_ret2
     exact ⟨by rw [HE2.out]; rfl, HKB.out⟩
theorem escL_sign {a b : UInt8} {t : List UInt8} (h : b.toNat = 34 ∨ b.toNat = 92) : escL (a :: b :: t) = (b.toNat, 2) := by
 show (if b.toNat = 34 ∨ b.toNat = 92 then (b.toNat, 2) else _) = _
 rw [if_pos h]
theorem escL_no {a b : UInt8} {t : List UInt8} (h : ¬ (b.toNat = 34 ∨ b.toNat = 92)) (h2 : b.toNat ≠ 117) : escL (a :: b :: t) = (0, 0) := by
 show (if b.toNat = 34 ∨ b.toNat = 92 then (b.toNat, 2) else if b.toNat = 117 then _ else (0, 0)) = _
 rw [if_neg h, if_neg h2]
theorem escL_short {a b : UInt8} {t : List UInt8} (h : ¬ (b.toNat = 34 ∨ b.toNat = 92)) (ht : t.length < 4) : escL (a :: b :: t) = (0, 0) := by
 by_cases h2 : b.toNat = 117
 ·show (if b.toNat = 34 ∨ b.toNat = 92 then (b.toNat, 2) else if b.toNat = 117 then _ else (0, 0)) = _
  rw [if_neg h, if_pos h2]
  match t, ht with
  | [], _ => rfl
  | [_], _ => rfl
  | [_, _], _ => rfl
  | [_, _, _], _ => rfl
  | _ :: _ :: _ :: _ :: r, h => simp at h; omega
 ·exact escL_no h h2
theorem escape_any (s : ByteArray) (w : World) (hs : s.size ≤ 1000000) :
 Calls Tryz.prog 227 #[.string s] w fun e w' => e = .returned (.tuple #[.int .i32 (escL s.data.toList).1, .int .i64 (escL s.data.toList).2]) ∧ Keeps [] w w' := by
 have hl : s.data.toList.length = s.size := Array.length_toList
 by_cases h1 : 1 < s.size
 ·have h1' : (1 : Int) < (s.size : Int) := by omega
  have e0 := byte_drop s 0 (by omega)
  have e1 := byte_drop s 1 h1
  obtain ⟨b, hb⟩ : ∃ b, s[1]'h1 = b := ⟨_, rfl⟩
  obtain ⟨a, ha⟩ : ∃ a, s[0]'(by omega) = a := ⟨_, rfl⟩
  rw [List.drop_zero, ha] at e0
  rw [hb] at e1
  rw [e1] at e0
  have hdl : (s.data.toList.drop 2).length = s.size - 2 := by rw [List.length_drop, hl]
  have b256 : b.toNat < 256 := b.toNat_lt
  by_cases hq : b.toNat = 34 ∨ b.toNat = 92
  ·have HE : Hid (escL s.data.toList = (b.toNat, 2)) := by
    show _ = _
    rw [e0, escL_sign hq]
   have hq' : ((b.toNat : Int) == 34) = true ∨ (((b.toNat : Int) == 34) = false ∧ ((b.toNat : Int) == 92) = true) := by simp; omega
   clear e0 e1 ha hdl hl hq
   rcases hq' with d1 | ⟨d1, d2⟩
   all_goals
    go_enter Tryz.func227, Tryz.ntmps227
    go_wp2_with fail
    go_ret2
    exact ⟨by rw [HE.out]; rfl, by exact Keeps.K⟩
  ·have d1 : ((b.toNat : Int) == 34) = false := by simp; omega
   have d2 : ((b.toNat : Int) == 92) = false := by simp; omega
   by_cases h6 : 6 ≤ s.size
   ·rcases hn : ((b.toNat : Int) == 117) with _ | _
    ·have hn1 : ((b.toNat : Int) != 117) = true := by rw [bne, hn]; rfl
     have hn2 : (b.toNat : Int) ≠ 117 := by simpa using hn
     have h6' : (6 : Int) ≤ (s.size : Int) := by omega
     have HE : Hid (escL s.data.toList = (0, 0)) := by
      show _ = _
      rw [e0, escL_no hq (by omega)]
     clear e0 e1 ha hdl hl hq
     go_enter Tryz.func227, Tryz.ntmps227
     go_wp2_with fail
     go_ret2
     exact ⟨by rw [HE.out]; rfl, by exact Keeps.K⟩
    ·exact escape_hex s w h6 hs b hb hn d1 d2
   ·have h6' : (s.size : Int) < 6 := by omega
    have HE : Hid (escL s.data.toList = (0, 0)) := by
     show _ = _
     rw [e0, escL_short hq (by rw [hdl]; omega)]
    clear e0 e1 ha hdl hl hq h6
    go_enter Tryz.func227, Tryz.ntmps227
    go_wp2_with fail
    go_ret2
    exact ⟨by rw [HE.out]; rfl, by exact Keeps.K⟩
 ·have h1' : (s.size : Int) ≤ 1 := by omega
  have h6' : (s.size : Int) < 6 := by omega
  have HE : Hid (escL s.data.toList = (0, 0)) := by
   show _ = _
   match h : s.data.toList, hl with
   | [], _ => rfl
   | [_], _ => rfl
   | _ :: _ :: r, h2 => simp at h2; omega
  clear hl h1
  go_enter Tryz.func227, Tryz.ntmps227
  go_wp2_with fail
  go_ret2
  exact ⟨by rw [HE.out]; rfl, by exact Keeps.K⟩
theorem ruAt_zero (s : ByteArray) (w : World) (hT : Tabs w) (h0 : 0 < s.size) (hs : s.size ≤ 1000000) :
 Calls Tryz.prog 225 #[.string s, .int .i64 0] w fun e w' => e = .returned (.tuple #[.int .i32 (Lib.decodeL s.data.toList).1, .int .i64 (Lib.decodeL s.data.toList).2, .bool true]) ∧ Keeps [] w w' := by
 have HT := hid hT
 have hx : s.extract 0 s.size = s := by simp
 have HX := hid hx
 have HG : Hid ((Lib.decodeGo s).1 = (Lib.decodeL s.data.toList).1 ∧ (Lib.decodeGo s).2 = (Lib.decodeL s.data.toList).2) := by
  have := Lib.decodeL_drop s 0
  rw [List.drop_zero] at this
  show _ ∧ _
  rw [this]
  unfold Lib.decodeGo
  rw [if_neg (by omega)]
  exact ⟨rfl, rfl⟩
 have HU : Hid ((Utf8.decode s 0).1 = (Lib.decodeL s.data.toList).1) := by
  have := Lib.decodeL_drop s 0
  rw [List.drop_zero] at this
  show _ = _
  rw [this]
 clear hT
 go_enter Tryz.func225, Tryz.ntmps225
 go_wp2_with fail
 go_loopw [] (fun wr => Hid (wr.heap[w.heap.size]? = some (.stringIter s 0) ∧ Below w.heap.size w wr)) (fun wr => 0)
 case atStart =>
  refine ⟨World.iter_heap w s 0, (Below.refl _ w).alloc (Nat.le_refl _) _⟩
 case round =>
  have HW := hrel
  obtain ⟨n, hn⟩ : ∃ n, (Utf8.decode s 0).2 = n := ⟨_, rfl⟩
  obtain ⟨r, hr⟩ : ∃ r, (Utf8.decode s 0).1 = r := ⟨_, rfl⟩
  obtain ⟨wi, hwi⟩ : ∃ wi, wr.iterAt w.heap.size s (0 + n) = wi := ⟨_, rfl⟩
  have hnx : ∀ ty, (Instr.next (.pointer (some ⟨w.heap.size, 0, none⟩)) true ty).run Tryz.prog wr = _ := fun ty => Lib.run_next_any_at wr w.heap.size s 0 ty HW.out.1 h0
  have hbw2 := Lib.below_iterAt HW.out.2 (k := w.heap.size) (Nat.le_refl _) s (0 + n)
  rw [hwi] at hbw2
  simp only [hn, hr, hwi] at hnx
  have HB2 : Hid (Keeps [] w wi) := Keeps.ofBelowSize hbw2
  rw [hr] at HU
  clear hwi hn hr hbw2
  go_wp2_with fail
  refine (uDecode_any s _ (HT.out.k HB2.out)).mono ?_
  rintro e w4 ⟨rfl, hk⟩
  have K4 : Hid (Keeps [] w w4) := HB2.out.trans hk (fun _ _ h => h)
  clear hk hnx
  rw [HG.out.2]
  go_wp2_with fail
  refine bodyPost_ret (results_tmp3 rfl _ _ _) rfl ?_
  exact ⟨by rw [HU.out]; rfl, K4.out⟩
theorem builder_k {T e : TypeId} {B b : Nat} {bs : List Value} {W W' : World} (h : Lib.IsBuilderF T e B b bs W) (k : Keeps [] W W') : Lib.IsBuilderF T e B b bs W' := by
 have key : ∀ p, Lib.BuilderAtF T e B b p bs W → Lib.BuilderAtF T e B b p bs W' := by
  intro p ⟨hB, v, hb, hown, hne⟩
  refine ⟨hB, v, (k.block b (Array.getElem?_eq_some_iff.1 hb).1 (by simp)).trans hb, ?_, hne⟩
  rcases hown with ⟨h1, h2⟩
  refine ⟨h1, ?_⟩
  rcases h2 with h2 | ⟨g, cap, cur, fr, rfl, hbg, hg, rest⟩
  ·exact .inl h2
  ·exact .inr ⟨g, cap, cur, fr, rfl, hbg, (k.block g (Array.getElem?_eq_some_iff.1 hg).1 (by simp)).trans hg, rest⟩
 exact h.elim (fun x => .inl (key _ x)) (fun x => .inr (key _ x))
def unqV (o : Option (List UInt8 × Nat)) : Value := match o with
 | some (t, p) => .tuple #[.string (str t), .int .i64 p, .bool true]
 | none => .tuple #[.string ⟨#[]⟩, .int .i64 0, .bool false]
def UAt (l acc : List UInt8) (p : Nat) : Prop := 1 ≤ p ∧ p ≤ l.length ∧ acc.length ≤ 4 * p ∧ ∃ f, l.length < f + p ∧ unqL l = unqGo f (l.drop p) acc p
theorem hx_lt : ∀ (l : List UInt8) (x v : Nat) (k : Nat), l.length ≤ k → hx l x = some v → x < 16 ^ (4 - k) → k ≤ 4 → v < 65536
 | [], x, v, k, _, h, hx', hk => by
   injection h with h
   subst h
   have h1 : 16 ^ (4 - k) ≤ 16 ^ 4 := Nat.pow_le_pow_right (by decide) (by omega)
   have e : (16 : Nat) ^ 4 = 65536 := by decide
   omega
 | c :: r, x, v, k, hl, h, hx', hk => by
   unfold hx at h
   rcases hc : hexV c with _ | d
   ·rw [hc] at h; cases h
   ·rw [hc] at h
    have hd := hexV_lt hc
    rcases k with _ | k
    ·simp at hl
    ·refine hx_lt r (x * 16 + d) v k (by simpa using hl) h ?_ (by omega)
     rw [show 4 - k = (4 - (k + 1)) + 1 by omega, Nat.pow_succ]
     omega
theorem enc_len4 (r : Nat) : (Lib.encodeRune (r : Int)).length ≤ 4 := by
 have h := Lib.runeCells_le (r : Int)
 rw [Lib.runeCells_length] at h
 exact h.2
theorem UAt.zero {l : List UInt8} (h : l.head? = some 34) : UAt l [] 1 := by
 match l, h with
 | b :: t, h =>
   have hb : b = 34 := by simpa using h
   subst hb
   refine ⟨Nat.le_refl _, by simp, by simp, t.length + 1, by simp, ?_⟩
   show (if (34 : UInt8).toNat = 34 then unqGo (t.length + 1) t [] 1 else none) = _
   rw [if_pos (by decide)]
   rfl
theorem UAt.f {l acc : List UInt8} {p : Nat} (h : UAt l acc p) : ∃ f, l.length < f + 1 + p ∧ unqL l = unqGo (f + 1) (l.drop p) acc p := by
 obtain ⟨h1, h2, h3, f, h4, h5⟩ := h
 rcases f with _ | f
 ·omega
 ·exact ⟨f, h4, h5⟩
theorem UAt.end_ {l acc : List UInt8} {p : Nat} (h : UAt l acc p) (hp : ¬ p < l.length) : unqL l = none := by
 obtain ⟨f, h4, h5⟩ := h.f
 rw [h5, List.drop_of_length_le (by omega), unqGo_succ, if_pos rfl]
theorem UAt.ne {l : List UInt8} {p : Nat} (hp : p < l.length) : l.drop p ≠ [] := by simp; omega
theorem UAt.quote {l acc : List UInt8} {p : Nat} (h : UAt l acc p) (hp : p < l.length) (hq : (Lib.decodeL (l.drop p)).1 = 34) : unqL l = some (acc, p + 1) := by
 obtain ⟨f, h4, h5⟩ := h.f
 rw [h5, unqGo_succ, if_neg (UAt.ne hp), if_pos hq]
theorem UAt.signNo {l acc : List UInt8} {p : Nat} (h : UAt l acc p) (hp : p < l.length) (hq : (Lib.decodeL (l.drop p)).1 = 92) (he : (escL (l.drop p)).2 = 0) : unqL l = none := by
 obtain ⟨f, h4, h5⟩ := h.f
 rw [h5, unqGo_succ, if_neg (UAt.ne hp), if_neg (by omega), if_pos hq, if_pos he]
theorem escL_le (l : List UInt8) : (escL l).2 ≤ l.length ∧ ((escL l).2 = 0 ∨ 2 ≤ (escL l).2) ∧ ((escL l).1 < 55296 ∨ (57344 ≤ (escL l).1 ∧ (escL l).1 ≤ 65535)) := by
 match l with
 | [] => exact ⟨by simp [escL], by simp [escL], by simp [escL]⟩
 | [_] => exact ⟨by simp [escL], by simp [escL], by simp [escL]⟩
 | a :: b :: t =>
   have b256 := b.toNat_lt
   by_cases h1 : b.toNat = 34 ∨ b.toNat = 92
   ·rw [escL_sign h1]
    refine ⟨by simp, by simp, ?_⟩
    dsimp only; omega
   ·by_cases h2 : b.toNat = 117
    ·by_cases h4 : 4 ≤ t.length
     ·rw [escL_hx h1 h2 h4]
      rcases hh : hx (t.take 4) 0 with _ | v
      ·simp
      ·have hv : v < 65536 := hx_lt (t.take 4) 0 v 4 (by rw [List.length_take]; omega) hh (by simp) (Nat.le_refl _)
       dsimp only
       split
       ·simp
       ·simp; omega
     ·rw [escL_short h1 (by omega)]; simp
    ·rw [escL_no h1 h2]; simp
theorem UAt.sign {l acc : List UInt8} {p : Nat} (h : UAt l acc p) (hp : p < l.length) (hq : (Lib.decodeL (l.drop p)).1 = 92) (he : (escL (l.drop p)).2 ≠ 0) : UAt l (acc ++ Lib.encodeRune ((escL (l.drop p)).1 : Int)) (p + (escL (l.drop p)).2) := by
 have hf := h.f
 obtain ⟨h1, h2, h3, _⟩ := h
 obtain ⟨f, h4, h5⟩ := hf
 have hl := escL_le (l.drop p)
 have hen := enc_len4 (escL (l.drop p)).1
 rw [List.length_drop] at hl
 refine ⟨by omega, by omega, by rw [List.length_append]; omega, f, by omega, ?_⟩
 rw [h5, unqGo_succ, if_neg (UAt.ne hp), if_neg (by omega), if_pos hq, if_neg he, List.drop_drop]
theorem UAt.bad {l acc : List UInt8} {p : Nat} (h : UAt l acc p) (hp : p < l.length) (hq : (Lib.decodeL (l.drop p)).1 ≠ 34) (hs : (Lib.decodeL (l.drop p)).1 ≠ 92) (hb : ((Lib.decodeL (l.drop p)).1 = 65533 ∧ (Lib.decodeL (l.drop p)).2 = 1) ∨ ctlR (Lib.decodeL (l.drop p)).1 = true) : unqL l = none := by
 obtain ⟨f, h4, h5⟩ := h.f
 rw [h5, unqGo_succ, if_neg (UAt.ne hp), if_neg hq, if_neg hs, if_pos hb]
theorem UAt.rune {l acc : List UInt8} {p : Nat} (h : UAt l acc p) (hp : p < l.length) (hq : (Lib.decodeL (l.drop p)).1 ≠ 34) (hs : (Lib.decodeL (l.drop p)).1 ≠ 92) (hb : ¬ (((Lib.decodeL (l.drop p)).1 = 65533 ∧ (Lib.decodeL (l.drop p)).2 = 1) ∨ ctlR (Lib.decodeL (l.drop p)).1 = true)) : UAt l (acc ++ Lib.encodeRune ((Lib.decodeL (l.drop p)).1 : Int)) (p + (Lib.decodeL (l.drop p)).2) := by
 have hf := h.f
 obtain ⟨h1, h2, h3, _⟩ := h
 obtain ⟨f, h4, h5⟩ := hf
 have hw := Lib.decodeL_width (l.drop p)
 have hle := Lib.decodeL_le (l.drop p) (UAt.ne hp)
 have hen := enc_len4 (Lib.decodeL (l.drop p)).1
 rw [List.length_drop] at hle
 refine ⟨by omega, by omega, by rw [List.length_append]; omega, f, by omega, ?_⟩
 rw [h5, unqGo_succ, if_neg (UAt.ne hp), if_neg hq, if_neg hs, if_neg hb, List.drop_drop]
theorem unquoted_any (s : ByteArray) (w : World) (hT : Tabs w) (hs : s.size ≤ 1000000) :
 Calls Tryz.prog 189 #[.string s] w fun e w' => e = .returned (unqV (unqL s.data.toList)) ∧ Keeps [] w w' := by
 have hl : s.data.toList.length = s.size := Array.length_toList
 by_cases h34 : s.data.toList.head? = some 34
 ·have hpos : 0 < s.size := by
   rw [← hl]
   rcases e : s.data.toList with _ | ⟨b, t⟩
   ·rw [e] at h34; cases h34
   ·simp
  have hc0 : s[0]'hpos = 34 := by
   have := byte_drop s 0 hpos
   rw [List.drop_zero] at this
   rw [this] at h34
   simpa using h34
  have HT := hid hT
  have HL := hid hl
  have HU0 := hid (UAt.zero h34)
  have hsI : (1 : Int) ≤ (s.size : Int) := by omega
  have HSZ := hid hs
  clear hT hl h34
  go_enter Tryz.func189, Tryz.ntmps189
  go_wp2_with fail
  go_loopw [6] (fun iv wr => ∃ (p : Nat) (acc : List UInt8), p ≤ s.size ∧ acc.length ≤ 4000000 ∧ iv = .int .i64 p ∧ Hid (Lib.IsBuilderF 325 5 w.heap.size w.heap.size (Lib.byteCells acc) wr ∧ UAt s.data.toList acc p ∧ Keeps [] w wr)) (fun iv _ => s.size - (intOf iv).toNat)
  case atStart => exact ⟨1, [], by omega, by simp, rfl, Lib.IsBuilderF.of (Lib.fresh_isBuilder 325 5 w), HU0.out, by exact Keeps.K⟩
  case round =>
   obtain ⟨p, acc, hp, hal, rfl, HW⟩ := hrel
   have i0 : (0 : Int) ≤ (p : Int) := Int.natCast_nonneg _
   have hwz : w.heap.size ≤ wr.heap.size := HW.out.2.2.size
   by_cases hlt : p < s.size
   ·have hlt' : (p : Int) < (s.size : Int) := by omega
    obtain ⟨m, hm⟩ : ∃ m, s.extract p s.size = m := ⟨_, rfl⟩
    have hml : m.data.toList = s.data.toList.drop p := by
     have := extract_str s p (s.size - p)
     rw [show p + (s.size - p) = s.size by omega, hm] at this
     rw [this]
     exact List.take_of_length_le (by rw [List.length_drop, HL.out]; omega)
    have hmz : m.size = s.size - p := by rw [← hm, ByteArray.size_extract]; omega
    have HMZ := hid hmz
    have HA := hid hal
    have HPL : Hid (p < s.data.toList.length) := (by rw [HL.out]; exact hlt : p < s.data.toList.length)
    have hW2 := HW.out.2.1
    have HQ1 : Hid ((Lib.decodeL m.data.toList).1 = 34 → unqL s.data.toList = some (acc, p + 1)) := fun h => hW2.quote HPL.out (by rw [← hml]; exact h)
    have HQ2 : Hid ((Lib.decodeL m.data.toList).1 = 92 → (escL m.data.toList).2 = 0 → unqL s.data.toList = none) := fun h h' => hW2.signNo HPL.out (by rw [← hml]; exact h) (by rw [← hml]; exact h')
    have HQ3 : Hid ((Lib.decodeL m.data.toList).1 = 92 → (escL m.data.toList).2 ≠ 0 → UAt s.data.toList (acc ++ Lib.encodeRune ((escL m.data.toList).1 : Int)) (p + (escL m.data.toList).2)) := fun h h' => by
     have := hW2.sign HPL.out (by rw [← hml]; exact h) (by rw [← hml]; exact h')
     rw [← hml] at this
     exact this
    have HQ4 : Hid ((Lib.decodeL m.data.toList).1 ≠ 34 → (Lib.decodeL m.data.toList).1 ≠ 92 → (((Lib.decodeL m.data.toList).1 = 65533 ∧ (Lib.decodeL m.data.toList).2 = 1) ∨ ctlR (Lib.decodeL m.data.toList).1 = true) → unqL s.data.toList = none) := fun h h' h'' => by
     rw [hml] at h h' h''
     exact hW2.bad HPL.out h h' h''
    have HQ5 : Hid ((Lib.decodeL m.data.toList).1 ≠ 34 → (Lib.decodeL m.data.toList).1 ≠ 92 → ¬ (((Lib.decodeL m.data.toList).1 = 65533 ∧ (Lib.decodeL m.data.toList).2 = 1) ∨ ctlR (Lib.decodeL m.data.toList).1 = true) → UAt s.data.toList (acc ++ Lib.encodeRune ((Lib.decodeL m.data.toList).1 : Int)) (p + (Lib.decodeL m.data.toList).2)) := fun h h' h'' => by
     rw [hml] at h h' h''
     have := hW2.rune HPL.out h h' h''
     rw [← hml] at this
     exact this
    have HEL := hid (escL_le m.data.toList)
    have hdv := decodeL_valid m.data.toList
    have hdw := Lib.decodeL_width m.data.toList
    have HES := hid (fun w1 => escape_any m w1 (by omega))
    have HAT := hid (fun w1 hT1 => ruAt_zero m w1 hT1 (by omega) (by omega))
    obtain ⟨⟨r, n⟩, hrn⟩ : ∃ rn, Lib.decodeL m.data.toList = rn := ⟨_, rfl⟩
    obtain ⟨⟨er, en⟩, hen⟩ : ∃ x, escL m.data.toList = x := ⟨_, rfl⟩
    rw [hrn] at hdv hdw HQ1 HQ2 HQ3 HQ4 HQ5 HAT
    rw [hen] at HQ2 HQ3 HEL HES
    dsimp only at hdv hdw HQ1 HQ2 HQ3 HQ4 HQ5 HAT HEL HES
    have hel := HEL.out
    rw [Array.length_toList, show m.data.size = m.size from rfl, hmz] at hel
    clear hW2 hml hrn hen hmz HEL
    have r1 : r ≤ 1114111 := by omega
    go_wp2_with fail
    refine (HAT.out _ (HT.out.k HW.out.2.2)).mono ?_
    rintro e w2 ⟨rfl, hk⟩
    have K2 : Hid (Keeps [] wr w2) := Keeps.trans (by exact Keeps.K) hk (fun _ _ h => h)
    have HB2 : Hid (Lib.IsBuilderF 325 5 w.heap.size w.heap.size (Lib.byteCells acc) w2) := builder_k HW.out.1 K2.out
    have KW2 : Hid (Keeps [] w w2) := HW.out.2.2.trans K2.out (fun _ _ h => h)
    have hz2 : w.heap.size ≤ w2.heap.size := KW2.out.size
    clear hk
    rcases h34 : ((r : Int) == 34) with _ | _
    ·have r34 : r ≠ 34 := by have h := beq_eq_false_iff_ne.1 h34; omega
     rcases h92 : ((r : Int) == 92) with _ | _
     ·have r92 : r ≠ 92 := by have h := beq_eq_false_iff_ne.1 h92; omega
      clear hm
      by_cases hbad : (r = 65533 ∧ n = 1) ∨ ctlR r = true
      ·have HE := hid (HQ4.out r34 r92 hbad)
       have hc : ((((r : Int) == 65533) = true) ∧ (((n : Int) == 1) = true)) ∨ ((((r : Int) == 65533) = false) ∧ (r : Int) < 32) ∨ ((((r : Int) == 65533) = false) ∧ 32 ≤ (r : Int) ∧ 127 ≤ (r : Int) ∧ (r : Int) ≤ 159) := by simp [ctlR] at hbad ⊢; omega
       clear hbad r34 r92
       rcases hc with ⟨c1, c2⟩ | ⟨c1, c2⟩ | ⟨c1, c2, c3, c4⟩
       all_goals
        go_wp2_with fail
        go_ret3
        exact ⟨by rw [HE.out]; rfl, KW2.out⟩
      ·have HN := hid (HQ5.out r34 r92 hbad)
       have hpn : p + n ≤ s.size := by have h := HN.out.2.1; rw [HL.out] at h; exact h
       have hc : ((((r : Int) == 65533) = true) ∧ (((n : Int) == 1) = false) ∧ 32 ≤ (r : Int) ∧ 127 ≤ (r : Int) ∧ 159 < (r : Int)) ∨ ((((r : Int) == 65533) = false) ∧ 32 ≤ (r : Int) ∧ (r : Int) < 127) ∨ ((((r : Int) == 65533) = false) ∧ 32 ≤ (r : Int) ∧ 127 ≤ (r : Int) ∧ 159 < (r : Int)) := by simp [ctlR] at hbad ⊢; omega
       have hn0 : ((n : Int) == 0) = false := by simp; omega
       have hn1 : (n : Int) ≠ 0 := by omega
       clear hbad r34 r92
       rcases hc with ⟨c1, c2, c3, c4, c5⟩ | ⟨c1, c2, c3⟩ | ⟨c1, c2, c3, c4⟩
       all_goals
        go_wp2_with fail
        refine (Tryz.Builder_WriteRune_k w.heap.size w.heap.size _ (r : Int) (by omega) (by omega) _ HB2.out (by rw [Lib.byteCells_length]; have := HA.out; omega) hz2).mono ?_
        rintro e w5 ⟨rfl, h5, b5, k5⟩
        have HJ : Hid (Lib.IsBuilderF 325 5 w.heap.size w.heap.size (Lib.byteCells (acc ++ Lib.encodeRune (r : Int))) w5) := by
         have e : Lib.byteCells (acc ++ Lib.encodeRune (r : Int)) = Lib.byteCells acc ++ Lib.runeCells (r : Int) := by rw [← Lib.byteCells_encodeRune, ← Lib.byteCells_append]
         show Lib.IsBuilderF _ _ _ _ _ _
         rw [e]
         exact Or.inr h5
        have K5 : Hid (Keeps [] w w5) := Keeps.ofBelowSize (KW2.out.belowSize.trans b5)
        clear h5 b5 k5
        go_wp2_with fail
        go_roundw
        case rel => exact ⟨p + n, acc ++ Lib.encodeRune (r : Int), by omega, by have h := HN.out.2.2.1; omega, by go_num, HJ.out, HN.out, K5.out⟩
        case measure => simp [intOf]; omega
     ·have r92 : r = 92 := by have h := beq_iff_eq.1 h92; omega
      go_wp2_with fail
      refine (HES.out _).mono ?_
      rintro e w3 ⟨rfl, hk⟩
      have K3 : Hid (Keeps [] w2 w3) := Keeps.trans (by exact Keeps.K) hk (fun _ _ h => h)
      have HB3 : Hid (Lib.IsBuilderF 325 5 w.heap.size w.heap.size (Lib.byteCells acc) w3) := builder_k HB2.out K3.out
      have KW3 : Hid (Keeps [] w w3) := KW2.out.trans K3.out (fun _ _ h => h)
      have hz3 : w.heap.size ≤ w3.heap.size := KW3.out.size
      clear hk hm
      by_cases h0 : en = 0
      ·have HE := hid (HQ2.out r92 h0)
       subst h0
       clear r92
       go_wp2_with fail
       go_ret3
       exact ⟨by rw [HE.out]; rfl, KW3.out⟩
      ·have HN := hid (HQ3.out r92 h0)
       have hpn : p + en ≤ s.size := by have h := HN.out.2.1; rw [HL.out] at h; exact h
       have hn0 : ((en : Int) == 0) = false := by simp; omega
       have hn1 : (en : Int) ≠ 0 := by omega
       have er1 : er ≤ 65535 := by omega
       clear r92 h0
       go_wp2_with fail
       refine (Tryz.Builder_WriteRune_k w.heap.size w.heap.size _ (er : Int) (by omega) (by omega) _ HB3.out (by rw [Lib.byteCells_length]; have := HA.out; omega) hz3).mono ?_
       rintro e w5 ⟨rfl, h5, b5, k5⟩
       have HJ : Hid (Lib.IsBuilderF 325 5 w.heap.size w.heap.size (Lib.byteCells (acc ++ Lib.encodeRune (er : Int))) w5) := by
        have e : Lib.byteCells (acc ++ Lib.encodeRune (er : Int)) = Lib.byteCells acc ++ Lib.runeCells (er : Int) := by rw [← Lib.byteCells_encodeRune, ← Lib.byteCells_append]
        show Lib.IsBuilderF _ _ _ _ _ _
        rw [e]
        exact Or.inr h5
       have K5 : Hid (Keeps [] w w5) := Keeps.ofBelowSize (KW3.out.belowSize.trans b5)
       clear h5 b5 k5
       go_wp2_with fail
       go_roundw
       case rel => exact ⟨p + en, acc ++ Lib.encodeRune (er : Int), by omega, by have h := HN.out.2.2.1; omega, by go_num, HJ.out, HN.out, K5.out⟩
       case measure => simp [intOf]; omega
    ·have hr : r = 34 := by have := beq_iff_eq.1 h34; omega
     have HE := hid (HQ1.out hr)
     clear hr hm
     go_wp2_with fail
     refine (Tryz.Builder_String_any_k w.heap.size w.heap.size _ _ HB2.out hz2).mono ?_
     rintro e w5 ⟨rfl, _, b5, _⟩
     have K5 : Hid (Keeps [] w w5) := Keeps.ofBelowSize (KW2.out.belowSize.trans b5)
     clear b5
     go_wp2_with fail
     go_ret3
     exact ⟨by rw [HE.out]; simp [unqV, str], K5.out⟩
   ·have hge : (s.size : Int) ≤ (p : Int) := by omega
    have HE : Hid (unqL s.data.toList = none) := HW.out.2.1.end_ (by rw [HL.out]; omega)
    go_wp2_with fail
    go_ret3
    exact ⟨by rw [HE.out]; rfl, HW.out.2.2⟩
 ·have HE : Hid (unqL s.data.toList = none) := by
   show _ = _
   unfold unqL
   rcases e : s.data.toList with _ | ⟨b, t⟩
   ·rfl
   ·have : b.toNat ≠ 34 := by
     intro hb
     rw [e] at h34
     exact h34 (by rw [List.head?_cons]; congr 1; exact UInt8.toNat_inj.1 hb)
    show (if b.toNat = 34 then _ else none) = _
    rw [if_neg this]
  by_cases h1 : s.size ≤ 1
  ·have h1' : (s.size : Int) ≤ 1 := by omega
   clear h34 hl
   go_enter Tryz.func189, Tryz.ntmps189
   go_wp2_with fail
   go_loopw [6] (fun iv wr => iv = .int .i64 1 ∧ Hid (Keeps [] w wr)) (fun iv _ => 0)
   case atStart => exact ⟨rfl, by exact Keeps.K⟩
   case round =>
    obtain ⟨rfl, HW⟩ := hrel
    go_wp2_with fail
    go_ret3
    exact ⟨by rw [HE.out]; rfl, HW.out⟩
  ·have h1' : (1 : Int) < (s.size : Int) := by omega
   have h0 : 0 < s.size := by omega
   obtain ⟨c, hc⟩ : ∃ c, s[0]'h0 = c := ⟨_, rfl⟩
   have hc34 : ((c.toNat : Int) == 34) = false := by
    have := byte_drop s 0 h0
    rw [List.drop_zero, hc] at this
    rw [this] at h34
    rw [beq_eq_false_iff_ne]
    intro h
    exact h34 (by rw [List.head?_cons]; congr 1; exact UInt8.toNat_inj.1 (by have : (34 : UInt8).toNat = 34 := rfl; omega))
   clear h34 hl
   go_enter Tryz.func189, Tryz.ntmps189
   go_wp2_with fail
   go_loopw [6] (fun iv wr => iv = .int .i64 1 ∧ Hid (Keeps [] w wr)) (fun iv _ => 0)
   case atStart => exact ⟨rfl, by exact Keeps.K⟩
   case round =>
    obtain ⟨rfl, HW⟩ := hrel
    go_wp2_with fail
    go_ret3
    exact ⟨by rw [HE.out]; rfl, HW.out⟩
end Go.Proofs.YtgjiahilbmeaeaaGreatDoor