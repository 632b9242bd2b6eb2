/- LexQuotes: a text, quoted, is one token. -/
import Derived.Test.YtdpbjdkkaekebaaDoorLxP
import Derived.Test.YtdpbjdkkaekebaaDoorVaH
import Derived.Test.YtdpbjdkkaekebaaDoorRfC
namespace Go.Proofs.YtdpbjdkkaekebaaDoor
open Go Go.RowKit

theorem lexR_quote {l : List UInt8} (hv : Lib.validD l = true) (hr : runesL l ≤ 100) (hn : (quoteL l).length ≤ 400) : lexR (quoteL l) = ([⟨2, l, 0, 0⟩, ⟨0, [], 0, (quoteL l).length⟩], 0, 0) := by
  have hu := unq_quote l [] hv
  rw [List.append_nil] at hu
  obtain ⟨t, ht⟩ : ∃ t, quoteL l = 34 :: t := ⟨_, rfl⟩
  have hc : clsL (quoteL l) = 0 := by
    rw [ht]
    unfold clsL
    rw [decode_byte 34 t (by decide)]
    decide
  have ho : oneD (quoteL l) = some (⟨2, l, 0, 0⟩, (quoteL l).length) := by
    unfold oneD
    rw [if_neg (by rw [hc]; decide), if_neg (by rw [hc]; decide), if_pos (by rw [ht]; rfl), hu]
    exact if_pos hr
  unfold lexR
  rw [if_neg (by omega), lexL_tok (by rw [ht]; simp) (by rw [hc]; decide) ho, List.drop_of_length_le (Nat.le_refl _), lexL_nil, Nat.zero_add]

set_option maxRecDepth 100000 in
theorem lxQuote_any (s : ByteArray) (w : World) (hT : Tabs w) (hs : s.size ≤ 1000000) :
    Calls Tryd.prog 18 #[.string s] w fun e w' => e = .returned (.string (str (quoteL s.data.toList))) ∧ Keeps [] w w' := by
  have HS := hid (vshow_any ⟨3, 0, s⟩ w hT hs (show I64 0 from by unfold I64; decide))
  have HX : Hid (bytes (showL ⟨3, 0, s⟩) = str (quoteL s.data.toList)) := by
    show bytes _ = _
    rw [showL_text]
    rfl
  rw [HX.out] at HS
  unfold valV at HS
  dsimp only at HS
  clear hT
  go_enter Tryd.func18, Tryd.ntmps18
  go_wp2_with fail
  refine HS.out.mono ?_
  rintro e w2 ⟨rfl, hk⟩
  have K := hid hk
  clear hk
  go_wp2_with fail
  go_ret
  exact ⟨rfl, K.out⟩
set_option maxRecDepth 100000 in
theorem r6Quote_any (s : ByteArray) (w : World) (hs : s.size ≤ 1000000) (hv : Lib.validD s.data.toList = true) :
    Calls Tryd.prog 19 #[.string s] w fun e w' => e = .returned (.string (str (quoteL s.data.toList))) ∧ Keeps [] w w' := by
  have HS := hid (r5Quote_any s w hs hv)
  clear hv
  go_enter Tryd.func19, Tryd.ntmps19
  go_wp2_with fail
  refine HS.out.mono ?_
  rintro e w2 ⟨rfl, hk⟩
  have K := hid hk
  clear hk
  go_wp2_with fail
  go_ret
  exact ⟨rfl, K.out⟩

set_option maxRecDepth 100000 in
set_option maxHeartbeats 8000000 in
theorem quotes_any (s : ByteArray) (w : World) (hT : Tabs w) (hE : Errs w) :
    Calls Tryd.prog 8 #[.string s] w fun e w' => e = .returned (.bool true) ∧ Keeps [] w w' := by
  have HAW := hid (fun w1 => awake6_any w1)
  have HT := hid hT
  have HE := hid hE
  have HFIN : ∀ (wx : World), Hid (Keeps [] w wx) → Calls Tryd.prog 9 #[] wx fun e w' => e = .returned (.bool true) ∧ Keeps [] w w' := fun wx K => (HAW.out wx (HT.out.k K.out) (HE.out.k K.out)).mono fun _ _ h => ⟨h.1, K.out.trans h.2 (fun _ _ h => h)⟩
  have HFIN := hid HFIN
  by_cases hbig : 400 < s.size
  · have hI : 400 < (s.size : Int) := by omega
    clear hbig hT hE
    go_enter Tryd.func8, Tryd.ntmps8
    go_wp2_with fail
    refine (HFIN.out _ (Keeps.refl [] w)).mono ?_
    rintro e w2 ⟨rfl, hk⟩
    have K := hid hk
    clear hk
    go_wp2_with fail
    go_ret
    exact ⟨rfl, K.out⟩
  have hI : (s.size : Int) ≤ 400 := by omega
  have HV := hid (fun w1 => r1Valid_any s w1 (by omega))
  have HC := hid (fun w1 => r1Count_any s w1 (by omega))
  have HQ := hid (fun w1 hT1 => lxQuote_any s w1 hT1 (by omega))
  have HQ6 := hid (fun w1 hv => r6Quote_any s w1 (by omega) hv)
  have HRL : Hid (Lib.runeCount s = runesL s.data.toList) := (pieces_count s).symm
  rcases hv : Lib.validD s.data.toList with _ | _
  · rw [hv] at HV
    clear hbig hT hE hv
    go_enter Tryd.func8, Tryd.ntmps8
    go_wp2_with fail
    refine (HV.out _).mono ?_
    rintro e w2 ⟨rfl, hk⟩
    have K2 := hid hk
    clear hk
    go_wp2_with fail
    refine (HFIN.out _ K2).mono ?_
    rintro e w3 ⟨rfl, hk⟩
    have K := hid hk
    clear hk
    go_wp2_with fail
    go_ret
    exact ⟨rfl, K.out⟩
  · rw [hv] at HV
    by_cases hr : 100 < runesL s.data.toList
    · have hrI : 100 < (runesL s.data.toList : Int) := by omega
      clear hbig hT hE hv hr
      go_enter Tryd.func8, Tryd.ntmps8
      go_wp2_with fail
      refine (HV.out _).mono ?_
      rintro e w2 ⟨rfl, hk⟩
      have K2 := hid hk
      clear hk
      go_wp2_with fail
      refine (HC.out _).mono ?_
      rintro e w3 ⟨rfl, hk⟩
      rw [HRL.out]
      have K3 := hid (K2.out.trans hk (fun _ _ h => h))
      clear hk
      go_wp2_with fail
      refine (HFIN.out _ K3).mono ?_
      rintro e w4 ⟨rfl, hk⟩
      have K := hid hk
      clear hk
      go_wp2_with fail
      go_ret
      exact ⟨rfl, K.out⟩
    · have hrI : (runesL s.data.toList : Int) ≤ 100 := by omega
      have HR := hid (fun hn => lexR_quote hv (by omega) hn)
      have HQ7 := hid (fun w1 => HQ6.out w1 hv)
      obtain ⟨l, hl⟩ : ∃ l, quoteL s.data.toList = l := ⟨_, rfl⟩
      rw [hl] at HR HQ HQ7
      have hz : (str l).size = l.length := rfl
      obtain ⟨q, hq⟩ : ∃ q, str l = q := ⟨_, rfl⟩
      have hql : q.data.toList = l := by rw [← hq]; rfl
      have hqs : q.size = l.length := by rw [← hq]; rfl
      rw [hq] at HQ HQ7
      rw [← hql] at HR
      have HSQ := hid hqs
      have HL := hid (fun w1 hT1 hE1 (h : q.size ≤ 1000000) => lxLex_any q w1 hT1 hE1 h)
      clear hbig hT hE hv hr hl hz hq hqs
      go_enter Tryd.func8, Tryd.ntmps8
      go_wp2_with fail
      refine (HV.out _).mono ?_
      rintro e w2 ⟨rfl, hk⟩
      have K2 := hid hk
      clear hk
      go_wp2_with fail
      refine (HC.out _).mono ?_
      rintro e w3 ⟨rfl, hk⟩
      rw [HRL.out]
      have K3 := hid (K2.out.trans hk (fun _ _ h => h))
      clear hk K2
      go_wp2_with fail
      refine (HQ.out _ (HT.out.k K3.out)).mono ?_
      rintro e w4 ⟨rfl, hk⟩
      have K4 := hid (K3.out.trans hk (fun _ _ h => h))
      clear hk K3
      go_wp2_with fail
      refine (HQ7.out _).mono ?_
      rintro e w5 ⟨rfl, hk⟩
      have K5 := hid (K4.out.trans hk (fun _ _ h => h))
      clear hk K4
      by_cases hb : 400 < q.size
      · have hbI : 400 < (q.size : Int) := by omega
        clear hb
        go_wp2_with fail
        refine (HFIN.out _ K5).mono ?_
        rintro e w6 ⟨rfl, hk⟩
        have K := hid hk
        clear hk
        go_wp2_with fail
        go_ret
        exact ⟨rfl, K.out⟩
      · have hbI : (q.size : Int) ≤ 400 := by omega
        have HR2 := HR.out (by rw [hql, ← HSQ.out]; omega)
        have hq0 := hid (HL.out w5 (HT.out.k K5.out) (HE.out.k K5.out) (by omega))
        unfold LexPost at hq0
        rw [HR2] at hq0
        dsimp only at hq0
        clear hb HR2
        go_wp2_with fail
        refine hq0.out.mono ?_
        rintro e w6 ⟨v, rfl, hlist, hk⟩
        have K6 := hid (K5.out.trans hk (fun _ _ h => h))
        obtain ⟨b, off, c, rfl, hc1, hc2, hc3, hc4⟩ := hlist.addr (by simp)
        obtain ⟨x0, x1, x2, x3⟩ := tok_get hlist (i := 0) rfl
        obtain ⟨y0, _, _, _⟩ := tok_get hlist (i := 1) rfl
        have z0 : w6.cell? ⟨b, off, none⟩ = some (.int .i64 2) := x0
        have z1 : w6.cell? ⟨b, off + 1, none⟩ = some (.string s) := by rw [Nat.zero_mul] at x1; rw [← show str s.data.toList = s from ByteArray.ext rfl]; exact x1
        have z2 : w6.cell? ⟨b, off + 2, none⟩ = some (.int .i64 0) := x2
        have z3 : w6.cell? ⟨b, off + 3, none⟩ = some (.int .i64 0) := x3
        have z4 : w6.cell? ⟨b, off + 4, none⟩ = some (.int .i64 0) := y0
        clear hk hlist x0 x1 x2 x3 y0 hc1
        dsimp only
        go_wp2_with fail
        refine (HFIN.out _ K6).mono ?_
        rintro e w7 ⟨rfl, hk⟩
        have K := hid hk
        clear hk
        go_wp2_with fail
        go_ret
        exact ⟨rfl, K.out⟩

end Go.Proofs.YtdpbjdkkaekebaaDoor
