/- From. -/
import Derived.Test.YtpppoajnbhipeaaCoreC
namespace Go.Proofs.Ytpppoajnbhipeaa
open Go Go.RowKit

/-- Entries in new memory: the row is the call's own; so are the entries' bytes. -/
def FreshEnts (w w' : World) (v : Value) (l : List Ent) : Prop := OwnAt entL 59 w' w.heap.size (fun b => w.heap.size ≤ b ∧ b ∉ ownB v) v l
def FromPost (l : List Ent) (w : World) (e : Ending) (w' : World) : Prop := ∃ a k, e = .returned (.slice a l.length k) ∧ FreshEnts w w' (.slice a l.length k) l ∧ Keeps [] w w'

theorem own_cap {w : World} {base e size n c : Nat} {a : Option Addr} {xs : List Value} (h : w.ownsRow base e size (.slice a n c) n xs) (hn : 0 < n) : n ≤ c ∧ c ≤ maxLen := by
  rcases h.2 with ⟨h0, _⟩ | ⟨g, cap, cur, hv, _, _, h1, h2, _⟩
  · simp at h0; omega
  · simp at hv
    obtain ⟨_, rfl⟩ := hv
    exact ⟨h1, h2⟩

theorem fromD_at {c : CoreD} {i : Int} {s : Nat} (h : max i (c.base + 1) = c.base + 1 + s) : fromD c i = c.l.drop s := by
  unfold fromD
  rw [h, show (c.base + 1 + (s : Int) - c.base - 1).toNat = s by omega]

theorem FromPost.nil {l : List Ent} {w w' : World} (hl : l = []) (k : Keeps [] w w') : FromPost l w (.returned (.slice none 0 0)) w' := by
  subst hl
  exact ⟨none, 0, rfl, OwnAt.nil _ _ _ _, k⟩

section
variable (w : World) (B n : Nat) (c : CoreD) (lv sv : Value) (h : CoreAt w B n c lv sv)
include h

set_option maxRecDepth 100000 in
set_option maxHeartbeats 1600000 in
theorem cFrom_any (i : Int) (b1 : -4611686018427387904 ≤ i) (b2 : i ≤ 4611686018427387904) : Calls Try.prog 28 #[.pointer (some ⟨n, 0, none⟩), .int .i64 i] w (FromPost (fromD c i) w) := by
  obtain ⟨it, hi0, hz0, hz1, hz2⟩ := info_parts Try.infoEnt
  have h1 : w.cell? ⟨n, 15, none⟩ = some (.int .i64 c.base) := h.blk.cell 15
  have HL : Hid (Calls Try.prog 25 #[.pointer (some ⟨n, 0, none⟩)] w fun e w' => e = .returned (.int .i64 (lastD c)) ∧ ∃ k, w' = w.drewN k) := cLast_any _ B n c lv sv h
  have o1 := h.ok.base.1
  have o2 := h.ok.last
  have o3 := h.ok.len
  obtain ⟨s, hs⟩ : ∃ s : Nat, max i (c.base + 1) = c.base + 1 + s := ⟨(max i (c.base + 1) - c.base - 1).toNat, by omega⟩
  have HF := hid (fromD_at hs)
  by_cases hgt : lastD c < c.base + 1 + s
  · have HE : Hid (fromD c i = []) := by
      show _ = _
      rw [HF.out]
      exact List.drop_eq_nil_of_le (by unfold lastD at hgt; omega)
    clear h
    rcases (show (i ≤ c.base + 1 ∧ lastD c < c.base + 1) ∨ (c.base + 1 < i ∧ lastD c < i) by omega) with ⟨hm, hg⟩ | ⟨hm, hg⟩
    all_goals
      clear hs hgt
      go_enter Try.func28, Try.ntmps28
      go_wp2_with (go_at_call 25; go_must (refine HL.out.mono ?_; rintro e w' ⟨rfl, kd, rfl⟩))
      all_goals
        go_ret
        exact FromPost.nil HE.out ((Keeps.refl _ _).drewN _)
  · have hsl : s < c.l.length := by unfold lastD at hgt; omega
    obtain ⟨e0, he0⟩ : ∃ e, c.l[s]? = some e := ⟨c.l[s], List.getElem?_eq_getElem hsl⟩
    obtain ⟨g, cap, v0, hf, hcl, hcm, ec, _⟩ := h.own.ent he0
    have hgl : g < w.heap.size := World.block_lt_of_cell? _ _ ec
    have HD : Hid (∀ (j : Nat) (e : Ent), c.l[j]? = some e → ∃ av cv, w.cell? ⟨g, j * 3, none⟩ = some (.int .i64 e.term) ∧ w.cell? ⟨g, j * 3 + 1, none⟩ = some (.bool e.cmd) ∧ w.cell? ⟨g, j * 3 + 2, none⟩ = some (.slice av e.data.length cv) ∧ Reads w 1 (.slice av e.data.length cv) e.data.length (u8s e.data) ∧ e.data.length ≤ 1000000) := fun j e he => by
      obtain ⟨g', k', v, hf', _, _, x0, x1, x2, xb⟩ := h.own.ent he
      rw [hf] at hf'
      simp at hf'
      obtain ⟨⟨rfl, _⟩, _⟩ := hf'
      obtain ⟨av, cv, rfl⟩ := xb.form
      exact ⟨av, cv, x0, x1, x2, xb.1, h.ok.data e (List.mem_of_getElem? he)⟩
    have h2 : w.cell? ⟨n, 17, none⟩ = some (.slice (some ⟨g, 0, none⟩) c.l.length cap) := (h.blk.cell 17).trans (by rw [hf]; rfl)
    obtain ⟨m, hm⟩ : ∃ m, c.l.length = s + m := ⟨c.l.length - s, by omega⟩
    have HM := hid hm
    have hc63 : (cap : Int) ≤ 9223372036854775807 := by unfold maxLen at hcm; omega
    have s0 : (0 : Int) ≤ (s : Int) := Int.natCast_nonneg _
    have s1 : (s : Int) ≤ (c.l.length : Int) := by omega
    have s2 : (s : Int) ≤ (cap : Int) := by omega
    have sc : ¬ cap = s := by omega
    have sc1 : s ≤ cap := by omega
    have sc2 : s ≤ c.l.length := by omega
    clear h hf he0 ec hcm
    obtain ⟨x, hx⟩ : ∃ x, x = c.base + 1 + (s : Int) := ⟨_, rfl⟩
    have w1 : IntKind.i64.wrap (x - c.base) = x - c.base := IntWalk.i64_in _ (by omega)
    have w2 : IntKind.i64.wrap (x - c.base - 1) = (s : Int) := by rw [IntWalk.i64_in _ (by omega)]; omega
    have hle : x ≤ lastD c := by omega
    rcases (show (i < x ∧ c.base + 1 = x) ∨ (c.base + 1 = x ∧ i = x) ∨ (¬ i ≤ c.base + 1 ∧ i = x) by omega) with ⟨hm1, hm2⟩ | ⟨hm1, hm2⟩ | ⟨hm1, hm2⟩
    rotate_left 1
    subst hm2
    rotate_left 1
    subst hm2
    all_goals
      clear hs hgt hm hx
      go_enter Try.func28, Try.ntmps28
      go_wp2_with (go_at_call 25; go_must (refine HL.out.mono ?_; rintro e w' ⟨rfl, kd, rfl⟩))
      all_goals
        go_quiet (fail)
        go_wp2_with fail
        clear w1 w2
        go_loopw [5, 33] (fun v i wr => ∃ (k : Nat) (a : Option Addr) (q : Nat), k ≤ m ∧ v = .slice a k q ∧ i = .int .i64 k ∧ Hid (FreshEnts w wr (.slice a k q) ((c.l.drop s).take k) ∧ Keeps [] w wr)) (fun _ i _ => m - (intOf i).toNat)
        case atStart => exact ⟨0, none, 0, Nat.zero_le _, rfl, rfl, by rw [List.take_zero]; exact OwnAt.nil _ _ _ _, ((Keeps.refl [] w).drewN _).drewN _⟩
        case round =>
          obtain ⟨k, a, q, hk, rfl, rfl, HW⟩ := hrel
          by_cases hlt : k < m
          · have i0 : (0 : Int) ≤ (k : Int) := Int.natCast_nonneg _
            have hmm : m ≤ 5096 := by have := HM.out; omega
            have i1 : (k : Int) < ((c.l.length - s : Nat) : Int) := by have := HM.out; omega
            have i2 : k < c.l.length - s := by have := HM.out; omega
            obtain ⟨e, he⟩ : ∃ e, c.l[s + k]? = some e := ⟨c.l[s + k]'(by have := HM.out; omega), List.getElem?_eq_getElem _⟩
            obtain ⟨av, cv, x0, x1, x2, xr, xl⟩ := HD.out (s + k) e he
            rw [Nat.add_mul] at x0 x1 x2
            have y0 := HW.out.2.cellSome x0 (by simp)
            have y1 := HW.out.2.cellSome x1 (by simp)
            have y2 := HW.out.2.cellSome x2 (by simp)
            have XR : Hid (Reads wr 1 (.slice av e.data.length cv) e.data.length (u8s e.data)) := xr.keeps HW.out.2 (fun _ _ h => by cases h)
            have HT : Hid ((c.l.drop s).take (k + 1) = (c.l.drop s).take k ++ [e]) := by
              show _ = _
              rw [List.take_add_one, List.getElem?_drop, he]
              rfl
            have HTL : Hid (((c.l.drop s).take k).length = k) := by
              show _ = _
              have := HM.out
              simp
              omega
            clear x0 x1 x2 xr he
            go_wp2_with fail
            refine (own_any e _ _ (XR.out.keeps ((Keeps.refl [] wr).alloc _) (fun _ _ h => by cases h)) (by omega)).mono ?_
            rintro z w3 ⟨a3, q3, rfl, ho, hk3⟩
            unfold entV
            have K3 : Hid (Keeps [] wr w3) := ((Keeps.refl [] wr).alloc _).trans hk3 (fun _ _ h => h)
            have HOW : Hid (OwnAt entL 59 w3 w.heap.size (fun b => w.heap.size ≤ b ∧ b ∉ ownB (.slice a k q)) (.slice a k q) ((c.l.drop s).take k)) := OwnAt.k HW.out.1 K3.out
            have HEL : Hid (∀ wx, Keeps [] w3 wx → entL.at_ wx (fun b => wr.heap.size ≤ b) [.int .i64 e.term, .bool e.cmd, .slice a3 e.data.length q3] e) := fun wx kx => ⟨_, rfl, BytesAt.k (BytesAt.ofOwn ho rfl (fun b hb _ => by simp at hb; omega)) kx⟩
            have HBB : Hid (∀ b, wr.heap.size ≤ b → w.heap.size ≤ b ∧ b ∉ ownB (.slice a k q)) := fun b hb => ⟨Nat.le_trans HW.out.2.size hb, fun hb' => by have := (OwnAt.ge HW.out.1 b hb').2; omega⟩
            have HZ : Hid (w.heap.size ≤ w3.heap.size) := Nat.le_trans HW.out.2.size K3.out.size
            clear ho hk3
            go_wp2_with (at_builtin; go_must (refine wpList_append_off (L := entL) (PB := fun b => wr.heap.size ≤ b) _ (by rfl) _ _ _ (by rfl) w.heap.size 59 it _ 40 Try.underlying35 hi0 hz0 hz1 hz2 rfl (R := fun b => w.heap.size ≤ b) (.slice a k q) (by rfl) ((c.l.drop s).take k) [e] k HTL.out [[.int .i64 e.term, .bool e.cmd, .slice a3 e.data.length q3]] (HOW.out.k ((Keeps.refl [] _).alloc _)) (.slice _ _ _) (by rfl) 1 rfl (ElemsAt.one1 (HEL.out _ ((Keeps.refl [] _).alloc _))) (Reads.one1 (heap_alloc_new _ _) rfl) (by omega) (le_maxLen (by omega)) (by exact Nat.le_trans HZ.out ((Keeps.refl [] _).alloc _).size) (fun b _ hb => HBB.out b hb) ?_; intro a4 q4 w4 ho4 hk4 hv4))
            go_roundw
            case rel =>
              refine ⟨k + 1, a4, q4, by omega, rfl, by go_num, ?_, ?_⟩
              · rw [HT.out]
                exact ho4.out
              · refine (HW.out.2.trans K3.out (fun _ _ h => h)).trans (((Keeps.refl _ _).alloc _).trans hk4.out (fun _ _ h => h)) (fun b hb hb' => ?_)
                have := (OwnAt.ge HOW.out b hb').1
                omega
            case measure => simp [intOf]; omega
          · have hkm : k = m := by omega
            subst hkm
            have i1 : ((c.l.length - s : Nat) : Int) ≤ (k : Int) := by have := HM.out; omega
            have HT : Hid ((c.l.drop s).take k = c.l.drop s) := by
              show _ = _
              have := HM.out
              exact List.take_of_length_le (by simp; omega)
            have HLN : Hid ((c.l.drop s).length = k) := by show _ = _; have := HM.out; simp; omega
            go_wp2_with fail
            go_ret
            refine ⟨a, q, ?_, ?_, HW.out.2⟩
            · rw [HF.out, HLN.out]; rfl
            · have := HW.out.1
              rw [HT.out] at this
              rw [HF.out, HLN.out]
              exact this
end

end Go.Proofs.Ytpppoajnbhipeaa
