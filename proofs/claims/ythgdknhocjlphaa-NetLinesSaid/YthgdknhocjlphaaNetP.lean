/- do: Send at both. -/
import Derived.Test.YthgdknhocjlphaaNetO
namespace Go.Proofs.Ythgdknhocjlphaa
open Go Go.RowKit

theorem Good.Send {room : Nat} {ms : Mail} {bs : List UInt8} (h : Good room ms) (h2 : bs.length ≤ 500) : Good room (SendS room ms bs).2 := by
  unfold SendS
  split
  · exact h
  · rename_i hne
    exact h.send (fun e => hne (by show bs.length = 0; have : bs = [] := e; rw [this]; rfl)) h2

theorem own_set {w : World} {base e n c vb : Nat} {xs : List Value} (h : w.ownsRow base e 1 (.slice (some ⟨vb, 0, none⟩) n c) n xs) (j : Nat) (u : Value) : ∃ ys, (w.setCell ⟨vb, j, none⟩ u).ownsRow base e 1 (.slice (some ⟨vb, 0, none⟩) n c) n ys := ⟨_, (h.stored j u).1⟩

/-- The same where only a source with elements need lie apart. -/
theorem Reads.keepsN {F : List Nat} {w w' : World} {size n : Nat} {v : Value} {xs : List Value} (h : Reads w size v n xs) (k : Keeps F w w') (hn : ∀ b, b ∈ ownB v → n ≠ 0 → b ∉ F) : Reads w' size v n xs := by
  rcases Nat.eq_zero_or_pos n with rfl | hp
  · obtain ⟨hl, h | ⟨hp, _⟩⟩ := h
    · exact ⟨hl, .inl h⟩
    · omega
  · exact h.keeps k (fun b hb => hn b hb (by omega))

theorem Reads.belowN {B : Nat} {w w' : World} {size n : Nat} {v : Value} {xs : List Value} (h : Reads w size v n xs) (k : Below B w w') (hn : ∀ b, b ∈ ownB v → n ≠ 0 → b < B) : Reads w' size v n xs := by
  rcases Nat.eq_zero_or_pos n with rfl | hp
  · obtain ⟨hl, h | ⟨hp, _⟩⟩ := h
    · exact ⟨hl, .inl h⟩
    · omega
  · exact h.below k (fun b hb => hn b hb (by omega))

set_option maxRecDepth 100000 in
set_option maxHeartbeats 1600000 in
theorem do_send (B n rn room : Nat) (ms : Mail) (p kind i at_ by_ : Int) (bv : Value) (bs : List UInt8) (w : World) (h : Duo B w n rn room ms) (wk : (Lit.int .i64 kind).wf = true) (hp : placeOf kind 6 = p) (hp2 : (p == 2) = false) (hp3 : (p == 3) = false) (hp4 : (p == 4) = false) (hp5 : (p == 5) = false)
    (hr : Reads w 1 bv bs.length (u8s bs)) (hbs : bs.length ≤ 500) (hbB : ∀ b ∈ ownB bv, bs.length ≠ 0 → b < B) :
    Calls Try.prog 17 #[.pointer (some ⟨n, 0, none⟩), .pointer (some ⟨rn, 0, none⟩), .agg #[.int .i64 kind, .int .i64 i, .int .i64 at_, .int .i64 by_, bv]] w fun e w' => e = .returned (.bool true) ∧ ∃ ms', Duo B w' n rn room ms' ∧ Below B w w' := by
  obtain ⟨F, F2, h1, h2, hd, hB, hB2, hsz, hg⟩ := h
  have HP := hid hp
  have L1 := hid h1.lt
  have L2 := hid h2.lt
  have H1 := hid h1
  have H2 := hid h2
  have HR := hid hr
  have HBB := hid hbB
  clear hp h1 h2 hr hbB
  have KA : Hid (Keeps [] w (w.alloc (.cells #[.int .i64 kind, .int .i64 i, .int .i64 at_, .int .i64 by_, bv] 41))) := (Keeps.refl [] w).alloc _
  go_enter Try.func17, Try.ntmps17
  go_wp2_with (go_at_call 7; go_must (refine (place_is p kind 6 _ (by omega) (by omega) wk HP.out).mono ?_; rintro e w' ⟨rfl, hw'⟩; subst hw'))
  go_wp2_with (go_at_call 13; go_must (refine (lawBytes_any bv bs _ (by exact HR.out.keeps KA.out (fun _ _ h => by cases h)) (by omega)).mono ?_; rintro e w1 ⟨a, c, rfl, ho, hgr⟩; have HO := hid ho; have K1 := hid (KA.out.grown hgr rfl rfl rfl rfl (fun _ h => by cases h)); have b0 : w1.cell? ⟨w.heap.size, 4, none⟩ = some bv := (by rw [hgr.cell_far _ (by simp) (by simp)]; simp); clear ho hgr))
  go_wp2_with fail
  have S1 := KA.out.size
  simp only [World.size_alloc] at S1
  have S2 := K1.out.size
  have HBN : Hid (∀ b ∈ ownB (.slice a bs.length c), w.heap.size < b ∧ b < w1.heap.size) := fun b hb => by have := ownB_ge HO.out b hb; simp at this; omega
  refine (Send_any n room ms F (.slice a bs.length c) bs _ (H1.out.k K1.out) (Reads.ofOwn HO.out) (by omega) (fun b hb => (HBN.out b hb).2) hg.small.1).mono ?_
  rintro e w2 ⟨rfl, F', h1', t1⟩
  have H1' := hid h1'
  have T1 := hid t1
  clear h1' t1
  have hbx : w.heap.size ∉ F := fun hb => by have := L1.out _ hb; omega
  have HNF : Hid (∀ b ∈ ownB (.slice a bs.length c), b ∉ F) := fun b hb hb' => by have := L1.out _ hb'; have := HBN.out b hb; omega
  have HNF' : Hid (∀ b ∈ ownB (.slice a bs.length c), b ∉ F') := fun b hb hb' => by
    rcases T1.out.2 b hb' with h | h
    · exact HNF.out b hb h
    · have := HBN.out b hb; omega
  have O2 : Hid (w2.ownsRow 0 5 1 (.slice a bs.length c) bs.length (u8s bs)) := ownsRow_base (ownsRow_keeps HO.out T1.out.1 HNF.out) (Nat.zero_le _)
  have b2 := T1.out.1.cellSome b0 hbx
  have hb500 : bs.length ≤ 9223372036854775807 := by omega
  go_wp2_with fail
  go_loopw [16] (fun i wr => ∃ k : Nat, k ≤ bs.length ∧ i = .int .i64 k ∧ Hid (Keeps (ownB (.slice a bs.length c)) w2 wr ∧ ∃ xs, wr.ownsRow 0 5 1 (.slice a bs.length c) bs.length xs)) (fun i _ => bs.length - (intOf i).toNat)
  case atStart => exact ⟨0, Nat.zero_le _, rfl, Keeps.refl _ _, _, O2.out⟩
  case round =>
    obtain ⟨k, hk, rfl, HW⟩ := hrel
    have i0 : (0 : Int) ≤ (k : Int) := Int.natCast_nonneg _
    by_cases hlt : k < bs.length
    · obtain ⟨vb, ha⟩ := own_addr HW.out.2.choose_spec (by omega)
      subst ha
      have i1 : (k : Int) < (bs.length : Int) := by omega
      obtain ⟨xs, hxs⟩ := HW.out.2
      have hc : ∃ u, wr.cell? ⟨vb, k, none⟩ = some u := by rw [hxs.cellAt k (by omega)]; exact ⟨_, List.getElem?_eq_getElem (by rw [hxs.1]; omega)⟩
      obtain ⟨u, hu⟩ := hc
      have hf := hxs.frozenAt k
      have HX := hid hxs
      clear hxs
      go_wp2_with fail
      go_roundw
      case rel => exact ⟨k + 1, by omega, by go_num, HW.out.1.setCell (.inl (by simp [mem_ownB, Value.ownBlock])) _, own_set HX.out _ _⟩
      case measure => simp [intOf]; omega
    · have hge : bs.length ≤ k := by omega
      have W2 := hid HW.out.1
      have b3 : wr.cell? ⟨w.heap.size, 4, none⟩ = some bv := W2.out.cellSome b2 (fun hb => by have h := HBN.out _ hb; simp at h)
      have HLF : Hid (∀ b, b ∈ F' → b ∉ ownB (.slice a bs.length c)) := fun b hb hb' => HNF'.out b hb' hb
      have R2 : Hid (RefRep wr rn room ms F2) := (((H2.out.k K1.out).keeps T1.out.1 (fun b hb hb' => hd b hb' hb))).keeps W2.out (fun b hb hb' => by have := L2.out b hb; have := HBN.out b hb'; omega)
      have N2 : Hid (NetRep wr n room (SendS room ms bs).2 F') := H1'.out.keeps W2.out HLF.out
      have RB : Hid (Reads wr 1 bv bs.length (u8s bs)) := (((HR.out.keeps K1.out (fun _ _ h => by cases h)).keepsN T1.out.1 (fun b hb h0 hb' => by have := HBB.out b hb h0; have := hB b hb'; omega))).keepsN W2.out (fun b hb h0 hb' => by have := HBB.out b hb h0; have := HBN.out b hb'; omega)
      go_wp2_with fail
      refine (rSend_any rn room ms F2 bv bs _ R2.out RB.out (by omega) hg.small.1).mono ?_
      rintro e w3 ⟨rfl, F2', h2', t2⟩
      have H2' := hid h2'
      have T2 := hid t2
      clear h2' t2
      go_wp2
      go_ret
      have tt : Turned F F' w wr := ⟨((K1.out.mono (G := F) (fun _ _ h => by cases h)).trans T1.out.1 (fun _ _ h => h)).trans W2.out (fun b hb hb' => by have := HBN.out b hb'; omega), fun b hb => (T1.out.2 b hb).imp id (by omega)⟩
      obtain ⟨d1, d2⟩ := Duo.turn (B := B) hd hB hB2 hsz L2.out L1.out N2.out tt H2'.out T2.out (hg.Send hbs)
      exact ⟨by simp, _, d1, d2⟩

end Go.Proofs.Ythgdknhocjlphaa
