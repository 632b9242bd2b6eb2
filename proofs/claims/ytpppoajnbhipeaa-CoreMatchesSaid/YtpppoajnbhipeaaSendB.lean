/- others with send: what all other nodes are to have next. -/
import Derived.Test.YtpppoajnbhipeaaSendA
namespace Go.Proofs.Ytpppoajnbhipeaa
open Go Go.RowKit

set_option maxRecDepth 100000 in
set_option maxHeartbeats 1600000 in
theorem others_send (w : World) (B n : Nat) (c : CoreD) (lv sv : Value) (h : CoreAt w B n c lv sv) :
    Calls Try.prog 62 #[.pointer (some ⟨n, 0, none⟩), .func (.func 63) #[.pointer (some ⟨n, 0, none⟩)] #[]] w (MsgsPost (othersD c (sendD c)) w) := by
  obtain ⟨it, hi0, hz0, hz1, hz2⟩ := info_parts Try.infoMsg
  have hm := (ConfD.may_iff c.conf).1 h.ok.may
  have h0 : w.cell? ⟨n, 0, none⟩ = some (.int .i64 c.conf.nodes) := h.blk.cell 0
  have h9 : w.cell? ⟨n, 9, none⟩ = some (.int .i64 c.id) := h.blk.cell 9
  have n1 := hm.1.1
  have n2 := hm.1.2
  have H := hid h
  have HN : Hid ((c.conf.nodes.toNat : Int) = c.conf.nodes) := by show _ = _; omega
  clear hm h
  go_enter Try.func62, Try.ntmps62
  go_wp2_with fail
  go_step3
  go_wp2_with fail
  go_step3
  go_wp2_with fail
  go_loopw [5, 6] (fun v t wr => ∃ (k m : Nat) (a : Option Addr) (q : Nat), k ≤ c.conf.nodes.toNat ∧ m ≤ k ∧ v = .slice a m q ∧ t = .int .i64 ((k : Int) + 1) ∧ Hid ((othersTo c.id k).length = m ∧ FreshMsgs w wr (.slice a m q) ((othersTo c.id k).map (sendD c)) ∧ Keeps [] w wr)) (fun _ t _ => (c.conf.nodes + 1 - intOf t).toNat)
  case atStart => exact ⟨0, 0, none, 0, Nat.zero_le _, Nat.le_refl _, rfl, rfl, rfl, OwnAt.nil _ _ _ _, Keeps.refl [] w⟩
  case round =>
    obtain ⟨k, m, a, q, hk, hmk, rfl, rfl, HW⟩ := hrel
    have i0 : (0 : Int) ≤ (k : Int) := Int.natCast_nonneg _
    have x0 := HW.out.2.2.cellSome h0 (by simp)
    have x9 := HW.out.2.2.cellSome h9 (by simp)
    by_cases hlt : k < c.conf.nodes.toNat
    · have hle : (k : Int) + 1 ≤ c.conf.nodes := by have := HN.out; omega
      by_cases hid' : (k : Int) + 1 = c.id
      · have HS := hid (othersTo_skip hid')
        have hb : ((k : Int) + 1 == c.id) = true := by simpa using hid'
        clear hid'
        go_wp2_with fail
        go_roundw
        case rel => exact ⟨k + 1, m, a, q, by omega, by omega, rfl, by go_num, by rw [HS.out]; exact HW.out⟩
        case measure => simp [intOf]; omega
      · have HS := hid (othersTo_take hid')
        have hb : ((k : Int) + 1 == c.id) = false := by simpa using hid'
        clear hid'
        have HTL : Hid (((othersTo c.id k).map (sendD c)).length = m) := by show _ = _; rw [List.length_map]; exact HW.out.1
        have HZ : Hid (w.heap.size ≤ wr.heap.size) := HW.out.2.2.size
        have hm7 : m ≤ 7 := by omega
        go_wp2_with fail
        refine (send_any wr B n c lv sv _ (H.out.k HW.out.2.2) ⟨by omega, by omega⟩).mono ?_
        rintro e w3 ⟨ea, ec, da, dc, rfl, hle, hbd, hk3⟩
        unfold msgV
        have HEL : Hid (∀ wx, Keeps [] w3 wx → msgL.at_ wx (fun b => wr.heap.size ≤ b) [.int .i64 (sendD c ((k : Int) + 1)).kind, .int .i64 (sendD c ((k : Int) + 1)).frm, .int .i64 (sendD c ((k : Int) + 1)).to, .int .i64 (sendD c ((k : Int) + 1)).term, .int .i64 (sendD c ((k : Int) + 1)).a, .int .i64 (sendD c ((k : Int) + 1)).b, .int .i64 (sendD c ((k : Int) + 1)).c, .bool (sendD c ((k : Int) + 1)).ok, .slice ea (sendD c ((k : Int) + 1)).entries.length ec, .slice da (sendD c ((k : Int) + 1)).data.length dc] (sendD c ((k : Int) + 1))) := fun wx kx => ⟨_, _, rfl, hle.k kx, hbd.k kx⟩
        have HBB : Hid (∀ b, wr.heap.size ≤ b → w.heap.size ≤ b ∧ b ∉ ownB (.slice a m q)) := fun b hb => ⟨Nat.le_trans HZ.out hb, fun hb' => by have := (OwnAt.ge HW.out.2.1 b hb').2; omega⟩
        have K3 := hid hk3
        have HOW : Hid (OwnAt msgL 40 w3 w.heap.size (fun b => w.heap.size ≤ b ∧ b ∉ ownB (.slice a m q)) (.slice a m q) ((othersTo c.id k).map (sendD c))) := OwnAt.k HW.out.2.1 hk3
        clear hk3 hle hbd
        go_wp2_with (at_builtin; go_must (refine wpList_append_off (L := msgL) (PB := fun b => wr.heap.size ≤ b) _ (by rfl) _ _ _ (by rfl) w.heap.size 40 it _ 112 Try.underlying36 hi0 hz0 hz1 hz2 rfl (R := fun b => w.heap.size ≤ b) (.slice a m q) (by rfl) ((othersTo c.id k).map (sendD c)) [sendD c ((k : Int) + 1)] m HTL.out [[.int .i64 (sendD c ((k : Int) + 1)).kind, .int .i64 (sendD c ((k : Int) + 1)).frm, .int .i64 (sendD c ((k : Int) + 1)).to, .int .i64 (sendD c ((k : Int) + 1)).term, .int .i64 (sendD c ((k : Int) + 1)).a, .int .i64 (sendD c ((k : Int) + 1)).b, .int .i64 (sendD c ((k : Int) + 1)).c, .bool (sendD c ((k : Int) + 1)).ok, .slice ea (sendD c ((k : Int) + 1)).entries.length ec, .slice da (sendD c ((k : Int) + 1)).data.length dc]] (HOW.out.k ((Keeps.refl [] _).alloc _)) (.slice _ _ _) (by rfl) 1 rfl (ElemsAt.one1 (HEL.out _ ((Keeps.refl [] _).alloc _))) (Reads.one1 (heap_alloc_new _ _) rfl) (by omega) (le_maxLen (by omega)) (by exact Nat.le_trans HZ.out (Nat.le_trans K3.out.size ((Keeps.refl [] _).alloc _).size)) (fun b _ hb => HBB.out b hb) ?_; intro a4 q4 w4 ho4 hk4 hv4))
        go_roundw
        case rel =>
          refine ⟨k + 1, m + 1, a4, q4, by omega, by omega, rfl, by go_num, ?_, ?_, ?_⟩
          · rw [HS.out]; simp [HW.out.1]
          · rw [HS.out, List.map_append]; exact ho4.out
          · refine (HW.out.2.2.trans K3.out (fun _ _ h => h)).trans (((Keeps.refl _ _).alloc _).trans hk4.out (fun _ _ h => h)) (fun b hb hb' => ?_)
            have := (OwnAt.ge HOW.out b hb').1
            omega
        case measure => simp [intOf]; omega
    · have hkn : k = c.conf.nodes.toNat := by omega
      have hge : c.conf.nodes < (k : Int) + 1 := by have := HN.out; omega
      have HK := hid hkn
      clear hkn
      go_wp2_with fail
      rw [Exit.noGoto_ret]
      go_ret
      have h1 := HW.out
      rw [HK.out] at h1
      unfold othersD
      refine ⟨a, q, ?_, ?_, h1.2.2⟩
      · rw [List.length_map, h1.1]; rfl
      · rw [List.length_map, h1.1]; exact h1.2.1


end Go.Proofs.Ytpppoajnbhipeaa
