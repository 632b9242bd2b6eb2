/- The laws' own examples. -/
import Derived.Test.YtdpbjdkkaekebaaDoorLxN
namespace Go.Proofs.YtdpbjdkkaekebaaDoor
open Go Go.RowKit

theorem awk1 : lexR [195, 169, 43, 49] = ([⟨3, [195, 169], 0, 0⟩, ⟨4, [43], 0, 2⟩, ⟨1, [], 1, 3⟩, ⟨0, [], 0, 4⟩], 0, 0) := by kernel_rfl
theorem awk2 : lexR [49, 32, 194, 167] = ([], 2, 5) := by kernel_rfl

/-- A token of a row, cell by cell. -/
theorem tok_get {w : World} {P : Nat → Prop} {b off n c : Nat} {l : List TokD} (h : ListAt tokL w P (.slice (some ⟨b, off, none⟩) n c) l) {i : Nat} {t : TokD} (ht : l[i]? = some t) :
    w.cell? ⟨b, off + i * 4, none⟩ = some (.int .i64 t.kind) ∧ w.cell? ⟨b, off + i * 4 + 1, none⟩ = some (.string (str t.s)) ∧ w.cell? ⟨b, off + i * 4 + 2, none⟩ = some (.int .i64 t.n) ∧ w.cell? ⟨b, off + i * 4 + 3, none⟩ = some (.int .i64 t.at_) := by
  obtain ⟨cs, hcs, hcell⟩ := h.get ht
  have hcs : cs = tokC t := hcs
  subst hcs
  exact ⟨hcell 0 _ rfl, hcell 1 _ rfl, hcell 2 _ rfl, hcell 3 _ rfl⟩

set_option maxRecDepth 100000 in
set_option maxHeartbeats 4000000 in
theorem awake6_any (w : World) (hT : Tabs w) (hE : Errs w) :
    Calls Tryd.prog 9 #[] w fun e w' => e = .returned (.bool true) ∧ Keeps [] w w' := by
  have H1 := hid (lxLex_any ⟨#[195, 169, 43, 49]⟩ w hT hE (by decide))
  have H2 := hid (fun w1 => lxLex_any ⟨#[49, 32, 194, 167]⟩ w1)
  have HT := hid hT
  have HE := hid hE
  clear hT hE
  go_enter Tryd.func9, Tryd.ntmps9
  go_wp2_with fail
  refine H1.out.mono ?_
  rintro e w2 ⟨v, rfl, hl, hk⟩
  rw [awk1] at hl ⊢
  obtain ⟨b, off, c, rfl, hc1, hc2, hc3, hc4⟩ := hl.addr (by simp)
  have HLL := hid hl
  have K2 := hid hk
  clear hl hk
  dsimp only
  go_wp2_with fail
  refine (H2.out _ (HT.out.k K2.out) (HE.out.k K2.out) (by decide)).mono ?_
  rintro e w3 ⟨v, rfl, hl, hk⟩
  rw [awk2]
  have K3 : Hid (Keeps [] w w3) := K2.out.trans hk (fun _ _ h => h)
  have HL3 := hid (HLL.out.k hk)
  obtain ⟨x0, _, _, _⟩ := tok_get HL3.out (i := 0) rfl
  obtain ⟨_, _, _, x1⟩ := tok_get HL3.out (i := 1) rfl
  obtain ⟨_, _, x2, _⟩ := tok_get HL3.out (i := 2) rfl
  obtain ⟨_, _, _, x3⟩ := tok_get HL3.out (i := 3) rfl
  obtain ⟨a, q, hv⟩ := hl.form
  clear hl hk
  have y0 : w3.cell? ⟨b, off, none⟩ = some (.int .i64 3) := x0
  have y1 : w3.cell? ⟨b, off + 7, none⟩ = some (.int .i64 2) := x1
  have y2 : w3.cell? ⟨b, off + 10, none⟩ = some (.int .i64 1) := x2
  have y3 : w3.cell? ⟨b, off + 15, none⟩ = some (.int .i64 4) := x3
  clear x0 x1 x2 x3
  dsimp only
  go_wp2_with fail
  go_ret
  exact ⟨rfl, K3.out⟩

end Go.Proofs.YtdpbjdkkaekebaaDoor
