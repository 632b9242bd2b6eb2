/- The document's text in its signs: Quote. -/
import Derived.Test.YtdpbjdkkaekebaaDoorRfB
namespace Go.Proofs.YtdpbjdkkaekebaaDoor
open Go Go.RowKit

theorem hex16_fin : ∀ d : Fin 16, (⟨#[48, 49, 50, 51, 52, 53, 54, 55, 56, 57, 97, 98, 99, 100, 101, 102]⟩ : ByteArray).extract d.val (d.val + 1) = str [hexD d.val] := by decide +kernel
theorem hex_slice (d : Nat) (h : d < 16) : (⟨#[48, 49, 50, 51, 52, 53, 54, 55, 56, 57, 97, 98, 99, 100, 101, 102]⟩ : ByteArray).extract d (d + 1) = str [hexD d] := hex16_fin ⟨d, h⟩
theorem extract_str (s : ByteArray) (p n : Nat) : s.extract p (p + n) = str ((s.data.toList.drop p).take n) := by
  refine ByteArray.ext ?_
  rw [ByteArray.data_extract]
  apply Array.toList_inj.1
  simp [str, Array.toList_extract, List.take_drop]

/-- Pieces of a text that may be: k of them written, up to place p. -/
def QP (l : List UInt8) (k p : Nat) (acc : List UInt8) : Prop := QAt l acc p ∧ Lib.validD (l.drop p) = true ∧ PcsAt l ((pieces l).take k) p
theorem QP.zero {l : List UInt8} (h : Lib.validD l = true) : QP l 0 0 [34] := ⟨QAt.zero l, by simpa using h, by simpa using PcsAt.zero l⟩
theorem QP.next {l acc : List UInt8} {k p : Nat} (h : QP l k p acc) (hk : k < (pieces l).length) :
    ∃ x, (pieces l)[k]? = some x ∧ x.at_ = p ∧ p < l.length ∧ (x.r < 55296 ∨ (57344 ≤ x.r ∧ x.r ≤ 1114111)) ∧ (l.drop p).take x.n = Lib.encodeRune (x.r : Int) ∧ p + x.n ≤ l.length ∧ QP l (k + 1) (p + x.n) (acc ++ quoteR x.r) := by
  obtain ⟨hq, hv, hp⟩ := h
  have hlen : ((pieces l).take k).length = k := by rw [List.length_take]; omega
  have hlt : p < l.length := by
    rcases Nat.lt_or_ge p l.length with h | h
    · exact h
    · have := (hp.end_ (by omega)).1
      rw [← this, hlen] at hk
      omega
  have hne : l.drop p ≠ [] := by simp; omega
  have hs := pcs_step (p := p) hne
  rw [List.length_drop] at hs
  have hx : (pieces l)[k]? = some ⟨p, (Lib.decodeL (l.drop p)).2, (Lib.decodeL (l.drop p)).1, badL (l.drop p)⟩ := by
    have h3 := hp.2.2
    rw [hs] at h3
    rw [h3, List.getElem?_append_right (by rw [hlen]; exact Nat.le_refl _), hlen]
    simp
  have hb : ¬ ((Lib.decodeL (l.drop p)).1 = 65533 ∧ (Lib.decodeL (l.drop p)).2 = 1) := by
    intro h; rw [Lib.validD_step _ hne, if_pos h] at hv; cases hv
  have hv2 := hv
  rw [Lib.validD_step _ hne, if_neg hb, List.drop_drop] at hv2
  have hle := Lib.decodeL_le (l.drop p) hne
  rw [List.length_drop] at hle
  have hn := hp.next hlt
  have ht : (pieces l).take (k + 1) = (pieces l).take k ++ [⟨p, (Lib.decodeL (l.drop p)).2, (Lib.decodeL (l.drop p)).1, badL (l.drop p)⟩] := by
    rw [List.take_add_one, hx]; rfl
  refine ⟨_, hx, rfl, hlt, decodeL_valid _, (Lib.encode_decode _ hne hb).symm, by show p + (Lib.decodeL (l.drop p)).2 ≤ _; omega, hq.next hlt, hv2, ?_⟩
  rw [ht]; exact hn
theorem QP.end_ {l acc : List UInt8} {k p : Nat} (h : QP l k p acc) (hk : ¬ k < (pieces l).length) : quoteL l = acc ++ [34] := by
  refine h.1.end_ fun hlt => ?_
  have hp := h.2.2
  rw [List.take_of_length_le (by omega)] at hp
  have hne : l.drop p ≠ [] := by simp; omega
  have hs := pcs_step (p := p) hne
  rw [List.length_drop] at hs
  have h3 := congrArg List.length hp.2.2
  rw [hs, List.length_append, List.length_cons] at h3
  omega

set_option maxRecDepth 100000 in
set_option maxHeartbeats 3200000 in
theorem r5Quote_any (s : ByteArray) (w : World) (hs : s.size ≤ 1000000) (hv : Lib.validD s.data.toList = true) :
    Calls Tryd.prog 31 #[.string s] w fun e w' => e = .returned (.string (str (quoteL s.data.toList))) ∧ Keeps [] w w' := by
  have hln := pieces_le s.data.toList
  have hsz : s.data.toList.length = s.size := Array.length_toList
  rw [hsz] at hln
  have HSZ := hid hsz
  clear hsz
  have HV := hid hv
  clear hv
  go_enter Tryd.func31, Tryd.ntmps31
  go_wp2_with fail
  refine (pieces_any s w hs).mono ?_
  rintro e w1 ⟨a, q, rfl, hf, hk⟩
  have HNX : Hid (∀ k p acc, QP s.data.toList k p acc → k < (pieces s.data.toList).length → ∃ x, (pieces s.data.toList)[k]? = some x ∧ x.at_ = p ∧ p < s.data.toList.length ∧ (x.r < 55296 ∨ (57344 ≤ x.r ∧ x.r ≤ 1114111)) ∧ (s.data.toList.drop p).take x.n = Lib.encodeRune (x.r : Int) ∧ p + x.n ≤ s.data.toList.length ∧ QP s.data.toList (k + 1) (p + x.n) (acc ++ quoteR x.r)) := fun k p acc h hk => h.next hk
  have HEN : Hid (∀ k p acc, QP s.data.toList k p acc → ¬ k < (pieces s.data.toList).length → quoteL s.data.toList = acc ++ [34]) := fun k p acc h hk => h.end_ hk
  obtain ⟨l, hl⟩ : ∃ l, pieces s.data.toList = l := ⟨_, rfl⟩
  rw [hl] at hf hln HNX HEN ⊢
  have HL := hid (fresh_pcs hf)
  have HK := hid hk
  clear hf hk hl
  go_wp2_with fail
  go_loopw [3, 5] (fun t i wr => ∃ (k p : Nat) (acc : List UInt8), k ≤ l.length ∧ acc.length ≤ 6000001 ∧ t = .string (str acc) ∧ i = .int .i64 k ∧ Hid (QP s.data.toList k p acc ∧ Keeps [] w1 wr)) (fun _ i _ => l.length - (intOf i).toNat)
  case atStart => exact ⟨0, 0, [34], Nat.zero_le _, by simp, rfl, rfl, QP.zero HV.out, Keeps.refl [] w1⟩
  case round =>
    obtain ⟨k, p, acc, hk, hal, rfl, rfl, HW⟩ := hrel
    have i0 : (0 : Int) ≤ (k : Int) := Int.natCast_nonneg _
    have hz0 : (str acc).size = acc.length := rfl
    by_cases hlt : k < l.length
    · have hlt' : (k : Int) < (l.length : Int) := by omega
      obtain ⟨x, hx, hat, hpl, hr, henc, hpn, hq⟩ := HNX.out k p acc HW.out.1 hlt
      obtain ⟨g, off, c, ha, hc1, hc2, hc3, _⟩ := HL.out.addr (fun hn => by rw [hn] at hlt; simp at hlt)
      simp at ha
      obtain ⟨rfl, rfl⟩ := ha
      obtain ⟨cs, hcs, hcell⟩ := (HL.out.k HW.out.2).get hx
      obtain ⟨xat, n, r, xb⟩ := x
      dsimp only at hat hr henc hpn hq
      subst hat
      have y0 : wr.cell? ⟨g, off + k * 4, none⟩ = some (.int .i64 xat) := hcell 0 _ (by rw [hcs]; rfl)
      have y1 : wr.cell? ⟨g, off + k * 4 + 1, none⟩ = some (.int .i64 n) := hcell 1 _ (by rw [hcs]; rfl)
      have y2 : wr.cell? ⟨g, off + k * 4 + 2, none⟩ = some (.int .i32 r) := hcell 2 _ (by rw [hcs]; rfl)
      have hbd := hq.1.2.1
      rw [HSZ.out] at hpl hpn
      have HQ := hid hq
      have HEN1 := hid henc
      have HR := hid hr
      have hal2 : (acc ++ quoteR r).length ≤ 6000001 := by omega
      have hal3 := hal2
      rw [List.length_append] at hal3
      have HA2 := hid hal2
      have HX := hid hx
      clear hcell hcs hx hq henc hbd hal2 hr
      have hr1 : r ≤ 1114111 := by have := HR.out; omega
      by_cases hq : r = 34 ∨ r = 92
      · have HS := hid (quoteR_sign hq)
        have hr128 : r < 2097152 := by omega
        have HBY : Hid (byL r = Lib.encodeRune (r : Int)) := byL_enc HR.out
        have hbz : (str (byL r)).size = 1 := by show (byL r).length = 1; rw [byL, if_pos (by omega)]; rfl
        have hq' : ((r : Int) == 34) = true ∨ (((r : Int) == 34) = false ∧ ((r : Int) == 92) = true) := by simp; omega
        have HQ2 := hid hq
        clear hq
        rcases hq' with d1 | ⟨d1, d2⟩
        all_goals
          go_wp2_with fail
          refine (r1Bytes_any r hr128 _).mono ?_
          rintro e w4 ⟨rfl, hk4⟩
          have K4 : Hid (Keeps [] w1 w4) := Keeps.trans HW.out.2 hk4 (fun _ _ h => h)
          clear hk4 y0 y1 y2
          go_wp2_with fail
          refine ⟨⟨k + 1, xat + n, acc ++ quoteR r, by omega, HA2.out, ?_, by simp, HQ.out, K4.out⟩, by simp [intOf]; omega⟩
          rw [HBY.out, HS.out, show (⟨#[92]⟩ : ByteArray) = str [92] from rfl, str_cat, str_cat, List.append_assoc]
          rfl
      · by_cases hc : ctlR r = true
        · have HS := hid (quoteR_ctl hc)
          have d1 : ((r : Int) == 34) = false := by simp; omega
          have d2 : ((r : Int) == 92) = false := by simp; omega
          have hcc : ((r : Int) < 32) ∨ (32 ≤ (r : Int) ∧ 127 ≤ (r : Int) ∧ (r : Int) ≤ 159) := by simp [ctlR] at hc; omega
          have q0 : r ≤ 159 := by omega
          have q1 : r / 16 < 16 := by omega
          have q3 : r % 16 < 16 := by omega
          clear hq hc
          rcases hcc with c1 | ⟨c1, c2, c3⟩
          all_goals
            go_wp2_with fail
            go_quiet (fail)
            go_wp2_with fail
            refine ⟨⟨k + 1, xat + n, acc ++ quoteR r, by omega, HA2.out, ?_, by simp, HQ.out, Keeps.trans HW.out.2 Keeps.K (fun _ _ h => h)⟩, by simp [intOf]; omega⟩
            rw [hex_slice _ q1, hex_slice _ q3, HS.out, show (⟨#[92, 117, 48, 48]⟩ : ByteArray) = str [92, 117, 48, 48] from rfl, str_cat, str_cat, str_cat, List.append_assoc, List.append_assoc]
            rfl
        · have hc' : ctlR r = false := by simpa using hc
          have HS := hid (quoteR_any hq hc')
          have d1 : ((r : Int) == 34) = false := by simp; omega
          have d2 : ((r : Int) == 92) = false := by simp; omega
          have c0 : ¬ ((r : Int) < 32) := by simp [ctlR] at hc; omega
          have hcc : ¬ (127 ≤ (r : Int)) ∨ ((127 ≤ (r : Int)) ∧ ¬ ((r : Int) ≤ 159)) := by simp [ctlR] at hc; omega
          clear hq hc hc'
          rcases hcc with c1 | ⟨c1, c2⟩
          all_goals
            go_wp2_with fail
            go_quiet (fail)
            go_wp2_with fail
            refine ⟨⟨k + 1, xat + n, acc ++ quoteR r, by omega, HA2.out, ?_, by simp, HQ.out, Keeps.trans HW.out.2 Keeps.K (fun _ _ h => h)⟩, by simp [intOf]; omega⟩
            rw [extract_str, HEN1.out, HS.out, str_cat]
    · have hge : (l.length : Int) ≤ (k : Int) := by omega
      have HE := hid (HEN.out k p acc HW.out.1 hlt)
      go_wp2_with fail
      go_ret
      refine ⟨?_, (HK.out.trans HW.out.2 (fun _ _ h => h))⟩
      rw [HE.out, ← str_cat]
      rfl

end Go.Proofs.YtdpbjdkkaekebaaDoor
