/- old: entries of elder terms, by numbers. -/
import Derived.Test.YtpppoajnbhipeaaCoreP
import Derived.Test.YtpppoajnbhipeaaOpenL
namespace Go.Proofs.Ytpppoajnbhipeaa
open Go Go.RowKit

/-- The term of the k-th entry, and of what stands ahead of it. -/
def oldT (ts : List Int) : Nat → Int
  | 0 => 1
  | k + 1 => min 5 (oldT ts k + placeOf (ts.getD k 0) 2)
def oldE (ts : List Int) (k : Nat) : Ent := { term := oldT ts (k + 1), cmd := true, data := [UInt8.ofNat k] }
def oldD (ts : List Int) (k : Nat) : List Ent := (List.range k).map (oldE ts)
theorem oldT_bd (ts : List Int) : ∀ k, 1 ≤ oldT ts k ∧ oldT ts k ≤ 5
  | 0 => by simp [oldT]
  | k + 1 => by
    have h1 := oldT_bd ts k
    have h2 := placeOf_bd (ts.getD k 0) 2 (by omega)
    unfold oldT
    omega
theorem oldD_succ (ts : List Int) (k : Nat) : oldD ts (k + 1) = oldD ts k ++ [oldE ts k] := by simp [oldD, List.range_succ]
theorem oldD_len (ts : List Int) (k : Nat) : (oldD ts k).length = k := by simp [oldD]
def oldL (ts : List Int) : List Ent := oldD ts (min ts.length 12)

theorem old_elem (ts : List Int) (k : Nat) (w : World) {T : Int} (hT : oldT ts (k + 1) = T) (hk : k < 12) :
    entL.at_ ((w.alloc (.cells #[.int .u8 (k : Int)] 5)).alloc (.cells #[.int .i64 T, .bool true, .slice (some ⟨w.heap.size, 0, none⟩) 1 1] 59)) (fun b => b = w.heap.size) [.int .i64 T, .bool true, .slice (some ⟨w.heap.size, 0, none⟩) 1 1] (oldE ts k) ∧
      ((w.alloc (.cells #[.int .u8 (k : Int)] 5)).alloc (.cells #[.int .i64 T, .bool true, .slice (some ⟨w.heap.size, 0, none⟩) 1 1] 59)).heap[w.heap.size + 1]? = some (.cells #[.int .i64 T, .bool true, .slice (some ⟨w.heap.size, 0, none⟩) 1 1] 59 (0, 0)) := by
  have e1 := heap_alloc_new w (.cells #[.int .u8 (k : Int)] 5)
  have k1 : Keeps [] (w.alloc (.cells #[.int .u8 (k : Int)] 5)) ((w.alloc (.cells #[.int .u8 (k : Int)] 5)).alloc (.cells #[.int .i64 T, .bool true, .slice (some ⟨w.heap.size, 0, none⟩) 1 1] 59)) := (Keeps.refl _ _).alloc _
  have e2 := (k1.block w.heap.size (by simp) (by simp)).trans e1
  have e3 := heap_alloc_new (w.alloc (.cells #[.int .u8 (k : Int)] 5)) (.cells #[.int .i64 T, .bool true, .slice (some ⟨w.heap.size, 0, none⟩) 1 1] 59)
  rw [show (w.alloc (.cells #[.int .u8 (k : Int)] 5)).heap.size = w.heap.size + 1 by simp] at e3
  refine ⟨⟨.slice (some ⟨w.heap.size, 0, none⟩) 1 1, ?_, ?_, ?_⟩, e3⟩
  · show _ = [Value.int .i64 (oldT ts (k + 1)), .bool true, _]
    rw [hT]
  · have h1 := Reads.one1 e2 rfl
    have e : u8s (oldE ts k).data = [.int .u8 (k : Int)] := by
      show [Value.int .u8 ((UInt8.ofNat k).toNat : Int)] = _
      rw [show (UInt8.ofNat k).toNat = k by simp [UInt8.toNat_ofNat']; omega]
    rw [e]
    exact h1
  · intro _ b hb
    simpa [mem_ownB, Value.ownBlock, eq_comm] using hb

set_option maxRecDepth 100000 in
set_option maxHeartbeats 1600000 in
theorem old_any (w : World) (ts : List Int) (a0 : Option Addr) (c0 : Nat) (P : Nat → Prop) (hl : ListAt intL w P (.slice a0 ts.length c0) ts) (hw : ∀ t ∈ ts, IntW t) :
    Calls Try.prog 27 #[.slice a0 ts.length c0] w (FromPost (oldL ts) w) := by
  obtain ⟨it, hi0, hz0, hz1, hz2⟩ := info_parts Try.infoEnt
  have HLA := hid hl
  have HD := hid hw
  clear hl hw
  go_enter Try.func27, Try.ntmps27
  go_wp2_with fail
  go_loopw [3, 4, 5] (fun v t i wr => ∃ (k : Nat) (a : Option Addr) (q : Nat), k ≤ ts.length ∧ k ≤ 12 ∧ v = .slice a k q ∧ t = .int .i64 (oldT ts k) ∧ i = .int .i64 k ∧ Hid (FreshEnts w wr (.slice a k q) (oldD ts k) ∧ Keeps [] w wr)) (fun _ _ i _ => 12 - (intOf i).toNat)
  case atStart => exact ⟨0, none, 0, Nat.zero_le _, Nat.zero_le _, rfl, rfl, rfl, OwnAt.nil _ _ _ _, Keeps.refl [] w⟩
  case round =>
    obtain ⟨k, a, q, hk, hk2, rfl, rfl, rfl, HW⟩ := hrel
    have i0 : (0 : Int) ≤ (k : Int) := Int.natCast_nonneg _
    by_cases hlt : k < ts.length
    · have i1 : (k : Int) < (ts.length : Int) := by omega
      by_cases hlt2 : k < 12
      · have i2 : (k : Int) < 12 := by omega
        obtain ⟨t, ht⟩ : ∃ t, ts[k]? = some t := ⟨ts[k], List.getElem?_eq_getElem hlt⟩
        obtain ⟨g, off, cg, ha, hcg, hcm, hgl, hgP⟩ := (HLA.out.k HW.out.2).addr (fun hn => by rw [hn] at hlt; simp at hlt)
        simp at ha
        obtain ⟨ha, hcc⟩ := ha
        subst ha
        subst hcc
        obtain ⟨cs, hcs1, hcs⟩ := (HLA.out.k HW.out.2).get ht
        have y0 : wr.cell? ⟨g, off + k, none⟩ = some (.int .i64 t) := by
          have := hcs 0 (.int .i64 t) (by rw [hcs1]; rfl)
          simpa [intL] using this
        have HTW : Hid (IntW t) := HD.out t (List.mem_of_getElem? ht)
        have HT1 : Hid (oldT ts (k + 1) = min 5 (oldT ts k + placeOf t 2)) := by
          show _ = _
          conv => lhs; unfold oldT
          rw [show ts.getD k 0 = t by rw [List.getD_eq_getElem?_getD, ht]; rfl]
        have bT := oldT_bd ts k
        have bP := placeOf_bd t 2 (by omega)
        obtain ⟨p, hp⟩ : ∃ p, placeOf t 2 = p := ⟨_, rfl⟩
        obtain ⟨T, hT⟩ : ∃ T, oldT ts k = T := ⟨_, rfl⟩
        rw [hp] at HT1 bP
        rw [hT] at HT1 bT
        have HP := hid hp
        rw [hT]
        clear hcs hcs1 ht hcm hcg hp hT
        obtain ⟨t1, t2⟩ := bT
        obtain ⟨p1, p2⟩ := bP
        have wr1 : IntKind.i64.wrap (T + p) = T + p := IntWalk.i64_in _ (by omega)
        have HT2 : Hid (oldT ts (k + 1) = if T + p < 5 then T + p else 5) := by
          show _ = _
          rw [HT1.out]
          split <;> omega
        go_wp2_with fail
        refine (place_is p t 2 _ (by omega) (by omega) HTW.out HP.out).mono ?_
        rintro e w1 ⟨rfl, rfl⟩
        have HEL := hid (old_elem ts k w1 HT2.out hlt2)
        have HOW : Hid (OwnAt entL 59 w1 w.heap.size (fun b => w.heap.size ≤ b ∧ b ∉ ownB (.slice a k q)) (.slice a k q) (oldD ts k)) := HW.out.1
        have HK1 := hid HW.out.2
        have HBB : Hid (∀ b, b = w1.heap.size → w.heap.size ≤ b ∧ b ∉ ownB (.slice a k q)) := fun b hb => ⟨by have := HK1.out.size; omega, fun hb' => by have := (OwnAt.ge HOW.out b hb').2; omega⟩
        go_wp2_with (at_builtin; go_must (refine wpList_append_off (L := entL) (PB := fun b => b = w1.heap.size) _ (by rfl) _ _ _ (by rfl) w.heap.size 59 it _ 40 Try.underlying35 hi0 hz0 hz1 hz2 rfl (R := fun b => w.heap.size ≤ b) (.slice a k q) (by rfl) (oldD ts k) [oldE ts k] k (oldD_len ts k) [[.int .i64 (if T + p < 5 then T + p else 5), .bool true, .slice (some ⟨w1.heap.size, 0, none⟩) 1 1]] (HOW.out.k (((Keeps.refl [] _).alloc _).alloc _)) (.slice _ _ _) (by rfl) 1 rfl (ElemsAt.one1 HEL.out.1) (Reads.one1 HEL.out.2 rfl) (by omega) (le_maxLen (by omega)) (Nat.le_trans HK1.out.size (((Keeps.refl [] _).alloc _).alloc _).size) (fun b _ hb => HBB.out b hb) ?_; intro a4 q4 w4 ho4 hk4 hv4))
        go_roundw
        case rel =>
          refine ⟨k + 1, a4, q4, by omega, by omega, rfl, by rw [HT2.out], by go_num, ?_, ?_⟩
          · rw [oldD_succ]
            exact ho4.out
          · refine (HK1.out.trans (((Keeps.refl [] w1).alloc _).alloc _) (fun _ _ h => h)).trans hk4.out (fun b hb hb' => ?_)
            have := (OwnAt.ge HOW.out b hb').1
            omega
        case measure => simp [intOf]; omega
      · have hk12 : k = 12 := by omega
        have HKM : Hid (min ts.length 12 = k) := by show _ = _; omega
        have i2 : (12 : Int) ≤ (k : Int) := by omega
        clear hk12 hlt2
        go_wp2_with fail
        go_ret
        exact ⟨a, q, by unfold oldL; rw [HKM.out, oldD_len]; rfl, by unfold oldL; rw [HKM.out, oldD_len]; exact HW.out.1, HW.out.2⟩
    · have HKM : Hid (min ts.length 12 = k) := by show _ = _; omega
      have i2 : (ts.length : Int) ≤ (k : Int) := by omega
      go_wp2_with fail
      go_ret
      exact ⟨a, q, by unfold oldL; rw [HKM.out, oldD_len]; rfl, by unfold oldL; rw [HKM.out, oldD_len]; exact HW.out.1, HW.out.2⟩

end Go.Proofs.Ytpppoajnbhipeaa
