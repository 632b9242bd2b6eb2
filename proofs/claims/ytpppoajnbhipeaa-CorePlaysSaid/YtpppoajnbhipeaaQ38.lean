/- Joined of PlayF, PlayG. -/
import Derived.Test.YtpppoajnbhipeaaQ37

/- CorePlays: one call of a script: Ask, Compact. Printed by gen_playf.py. -/
namespace Go.Proofs.Ytpppoajnbhipeaa
open Go Go.RowKit

theorem Duo2.bans {w0 w w' : World} {n rn : Nat} {c r : CoreD} {lv sv lv' sv' : Value} {P : Nat → Prop} (h : Duo2 w0 w n rn c r lv sv lv' sv' P) (k : Keeps [] w w') : Duo2 w0 w' n rn { c with ban := fun b => c.ban b ∨ (w.heap.size ≤ b ∧ b < w'.heap.size) } r lv sv lv' sv' P :=
  ⟨h.core.banned k (fun b => w.heap.size ≤ b ∧ b < w'.heap.size) (fun _ hb => hb) (fun b hb => (h.core.lt b hb).2), h.ref.k k, .inl h.ban, fun b hb => Nat.lt_of_lt_of_le (h.lt b hb) k.size, h.off, h.old, h.keeps.trans k (fun _ _ h => h)⟩
theorem Duo2.wrote {w0 w w' : World} {n rn : Nat} {c r : CoreD} {lv sv lv' sv' : Value} {P : Nat → Prop} {G : List Nat} (h : Duo2 w0 w n rn c r lv sv lv' sv' P) (k : Keeps G w w') (hG : ∀ g ∈ G, c.ban g ∧ ¬ P g ∧ g ≠ rn ∧ w0.heap.size ≤ g) : Duo2 w0 w' n rn c r lv sv lv' sv' P :=
  ⟨h.core.keepB k (fun hb => h.core.free.1 (hG n hb).1) (fun b hb hb' => h.core.free.2 b hb (hG b hb').1) (fun b hb => .inr (.inl (hG b hb).1)), h.ref.keep k (fun hb => (hG rn hb).2.2.1 rfl) (fun b hP hb => (hG b hb).2.1 hP), h.ban, fun b hb => Nat.lt_of_lt_of_le (h.lt b hb) k.size, h.off, h.old, h.keeps.trans k (fun b hb hb' => by have := (hG b hb').2.2.2; omega)⟩

theorem ask_fields (c : CoreD) (d : List UInt8) : (askD c d).1.votes = c.votes ∧ (askD c d).1.conf = c.conf ∧ (askD c d).1.patience = c.patience ∧ (askD c d).1.ban = c.ban ∧ lastD (askD c d).1 ≤ lastD c + 1 := by
  unfold askD
  split
  · exact ⟨rfl, rfl, rfl, rfl, by show lastD c ≤ _; omega⟩
  · split
    · exact ⟨rfl, rfl, rfl, rfl, by show lastD c ≤ _; omega⟩
    · refine ⟨rfl, rfl, rfl, rfl, ?_⟩
      show c.base + ((c.l ++ [_]).length : Int) ≤ c.base + (c.l.length : Int) + 1
      rw [List.length_append]
      simp
      omega
theorem compact_fields {c : CoreD} (hc : c.commit ≤ c.base + c.l.length) (i : Int) (d : List UInt8) : (compactD c i d).1.votes = c.votes ∧ (compactD c i d).1.conf = c.conf ∧ (compactD c i d).1.patience = c.patience ∧ (compactD c i d).1.ban = c.ban ∧ lastD (compactD c i d).1 ≤ lastD c := by
  unfold compactD
  split
  · exact ⟨rfl, rfl, rfl, rfl, Int.le_refl _⟩
  · refine ⟨rfl, rfl, rfl, rfl, ?_⟩
    show i + ((c.l.drop (i - c.base).toNat).length : Int) ≤ c.base + (c.l.length : Int)
    simp
    omega

theorem row_addr {w : World} {base e size n c : Nat} {a : Option Addr} {xs : List Value} (h : w.ownsRow base e size (.slice a n c) n xs) (hn : 0 < n) : ∃ b, a = some ⟨b, 0, none⟩ := by
  obtain ⟨g', c', h, _⟩ := h.form hn
  simp at h
  exact ⟨g', h.1⟩
theorem row_set {w : World} {base e n c vb : Nat} {xs : List Value} (h : w.ownsRow base e 1 (.slice (some ⟨vb, 0, none⟩) n c) n xs) (j : Nat) (u : Value) : ∃ ys, (w.setCell ⟨vb, j, none⟩ u).ownsRow base e 1 (.slice (some ⟨vb, 0, none⟩) n c) n ys := ⟨_, (h.stored j u).1⟩

/-- The core's data beside new blocks that are none of its own. -/
theorem play_bans {w0 w w' : World} {n rn k : Nat} {c r : CoreD} {lv sv lv' sv' : Value} {P : Nat → Prop} (h : Duo2 w0 w n rn c r lv sv lv' sv' P) (hk : Kin c r) (kk : Keeps [] w w') : ∃ c2, Duo2 w0 w' n rn c2 r lv sv lv' sv' P ∧ Kin c2 r ∧ (∀ b, w.heap.size ≤ b → b < w'.heap.size → c2.ban b) ∧ c2.votes = c.votes ∧ c2.conf = c.conf ∧ c2.patience = c.patience ∧ lastD c2 = lastD c :=
  ⟨_, h.bans kk, by obtain ⟨nx, mx, f, rfl, h1, h2⟩ := hk; exact ⟨nx, mx, f, rfl, h1, h2⟩, fun b h1 h2 => .inr ⟨h1, h2⟩, rfl, rfl, rfl, rfl⟩

set_option maxRecDepth 100000 in
set_option maxHeartbeats 6400000 in
theorem do_ask (w0 w : World) (n rn k : Nat) (o : OpD) (ea da ba : Option Addr) (ec dc bc : Nat) (H : PlaySt w0 w n rn k) (hk : k ≤ 60) (wk : (Lit.int .i64 o.kind).wf = true) (hpl : placeOf o.kind 12 = (9 : Int))
    (hdt : BytesAt w (fun b => b < w0.heap.size) (.slice ba o.data.length bc) o.data) (hs : o.data.length ≤ 300) :
    Calls Try.prog 43 #[.pointer (some ⟨n, 0, none⟩), .pointer (some ⟨rn, 0, none⟩), opV o (.slice ea o.m.entries.length ec) (.slice da o.m.data.length dc) (.slice ba o.data.length bc)] w (DoPost w0 n rn k) := by
  obtain ⟨c0, r, lv, sv, lv', sv', P, hd, hkin, hvt, hp0, hp1, hll⟩ := H
  have HD := hid hd
  have HK := hid hkin
  have HP := hid hpl
  have HDT := hid hdt
  have HBS : Hid (∀ wx wy, Keeps [] w wx → Keeps [] wx wy → ∃ c, Duo2 w0 wy n rn c r lv sv lv' sv' P ∧ (∀ b, wx.heap.size ≤ b → b < wy.heap.size → c.ban b) ∧ (askD c o.data).1.ban = c.ban ∧ (lastD c + 1 ≤ 2199023255552 ∧ lastD r + 1 ≤ 2199023255552) ∧ (Kin (askD c o.data).1 (askD r o.data).1 ∧ (askD r o.data).2 = (askD c o.data).2) ∧ VotesOk (askD c o.data).1 ∧ 0 ≤ (askD c o.data).1.patience ∧ (askD c o.data).1.patience ≤ ((k + 1 : Nat) : Int) ∧ lastD (askD c o.data).1 ≤ 1099511627776 + 8 * ((k + 1 : Nat) : Int)) := fun wx wy kx ky => by
    obtain ⟨c, h1, h2, h3, e1, e2, e3, e4⟩ := play_bans (k := k) (HD.out.beside kx) hkin ky
    obtain ⟨g1, g2, g3, g4, g5⟩ := ask_fields c o.data
    have hlr : lastD r = lastD c := by obtain ⟨nx, mx, f, rfl, _, _⟩ := h2; rfl
    exact ⟨c, h1, h3, g4, ⟨by omega, by omega⟩, kin_ask h2 o.data, fun i hi => by rw [g1, e1] at hi; rw [g2, e2]; exact hvt i hi, by rw [g3, e3]; exact hp0, by rw [g3, e3]; omega, by omega⟩
  have HB0 : Hid (w0.heap.size ≤ w.heap.size) := hd.keeps.size
  have h15 : rn < w.heap.size := hd.ref.blk.lt
  unfold opV
  clear hd hkin hvt hp0 hp1 hll hpl hdt
  go_enter Try.func43, Try.ntmps43
  go_wp2_with fail
  refine (place_is 9 o.kind 12 _ (by omega) (by omega) wk HP.out).mono ?_
  rintro e w1 ⟨rfl, hwa⟩
  rw [hwa]
  clear hwa w1
  go_wp2_with fail
  refine calls_fold (fun wx => Keeps [] w wx ∧ wx.cell? ⟨w.heap.size, 12, none⟩ = some (.slice ba o.data.length bc)) ⟨by exact Keeps.K, by go_simp⟩ ?_
  rintro w2 ⟨k2, b2⟩
  have K2 := hid k2
  have B2 := hid b2
  clear k2 b2
  refine (lawBytes_any _ o.data w2 (HDT.out.k K2.out).1 (by omega)).mono ?_
  rintro e w3 ⟨a3, q3, rfl, o3, k3⟩
  have HX : Hid (∃ c, Duo2 w0 w3 n rn c r lv sv lv' sv' P ∧ (∀ b, w2.heap.size ≤ b → b < w3.heap.size → c.ban b) ∧ (askD c o.data).1.ban = c.ban ∧ (lastD c + 1 ≤ 2199023255552 ∧ lastD r + 1 ≤ 2199023255552) ∧ (Kin (askD c o.data).1 (askD r o.data).1 ∧ (askD r o.data).2 = (askD c o.data).2) ∧ VotesOk (askD c o.data).1 ∧ 0 ≤ (askD c o.data).1.patience ∧ (askD c o.data).1.patience ≤ ((k + 1 : Nat) : Int) ∧ lastD (askD c o.data).1 ≤ 1099511627776 + 8 * ((k + 1 : Nat) : Int)) := HBS.out w2 w3 K2.out k3
  have HPB : Hid (∀ b, P b → b < w2.heap.size) := (HD.out.beside K2.out).lt
  have HPN : Hid (∀ b ∈ n :: ownB lv, b < w2.heap.size) := fun b hb => ((HD.out.beside K2.out).core.lt b hb).2
  have HW2 : Hid (w.heap.size < w2.heap.size) := World.block_lt_of_cell? _ _ B2.out
  have HPW : Hid (∀ b ∈ n :: ownB lv, b < w.heap.size) := fun b hb => (HD.out.core.lt b hb).2
  have O3 := hid o3
  have B3 : Hid (w3.cell? ⟨w.heap.size, 12, none⟩ = some (.slice ba o.data.length bc)) := k3.cellSome B2.out (by simp)
  have A3 : Hid (BytesAt w3 (fun b => b < w0.heap.size) (.slice ba o.data.length bc) o.data) := HDT.out.k (K2.out.trans k3 (fun _ _ h => h))
  have E3 : Hid (BytesAt w3 (fun b => w2.heap.size ≤ b) (.slice a3 o.data.length q3) o.data) := Copied.bytes o3 (fun b hb _ => hb)
  clear o3 k3 HBS HD
  obtain ⟨c, hd3, hbn, hbe, hll, hkk, hvv⟩ := HX.out
  have D3 := hid hd3
  have HBN := hid hbn
  have HBE := hid hbe
  have HLL := hid hll
  have HKK := hid hkk
  have HVV := hid hvv
  clear HX hd3 hbn hbe hll hkk hvv
  go_wp2_with fail
  refine (ask_any w3 w0.heap.size n c lv sv o.data a3 q3 (fun b => w2.heap.size ≤ b) D3.out.core E3.out (by omega) HLL.out.1).mono ?_
  rintro e w4 ⟨a4, q4, lv2, sv2, rfl, hc4, hm4, hk4, hv4⟩
  have D4 : Hid (Duo2 w0 w4 n rn (askD c o.data).1 r lv2 sv2 lv' sv' P) := D3.out.callC hc4 HBE.out hk4 hv4
  have M4 := hid hm4.list
  have O4 : Hid (w4.ownsRow w2.heap.size 5 1 (.slice a3 o.data.length q3) o.data.length (u8s o.data)) := ownsRow_keeps O3.out hk4 (fun b hb hb' => by have := (ownB_ge O3.out b hb).1; have := HPN.out b hb'; omega)
  have HG : Hid (∀ b ∈ ownB (.slice a3 o.data.length q3), w2.heap.size ≤ b ∧ b < w3.heap.size) := fun b hb => ownB_ge O3.out b hb
  have B4 : Hid (w4.cell? ⟨w.heap.size, 12, none⟩ = some (.slice ba o.data.length bc)) := hk4.cellSome B3.out (fun hb => by have := HPW.out _ hb; simp at this)
  have A4 : Hid (BytesAt w4 (fun b => b < w0.heap.size) (.slice ba o.data.length bc) o.data) := A3.out.keep hk4 (fun b hb hb' => by have := (D3.out.core.lt b hb').1; omega)
  clear hc4 hm4 hk4 hv4 B3 A3 E3
  obtain ⟨J, hJ⟩ : ∃ J, (askD c o.data).2.1 = J := ⟨_, rfl⟩
  obtain ⟨ER, hER⟩ : ∃ ER, (askD c o.data).2.2.2 = ER := ⟨_, rfl⟩
  obtain ⟨ML, hML⟩ : ∃ ML, (askD c o.data).2.2.1 = ML := ⟨_, rfl⟩
  have HJ := hid hJ
  have HER := hid hER
  have HML := hid hML
  rw [hJ, hER, hML]
  rw [hML] at M4
  clear hJ hER hML
  have hl300 : (o.data.length : Int) ≤ 300 := by omega
  go_wp2_with fail
  go_loopw [11] (fun i wr => ∃ j : Nat, j ≤ o.data.length ∧ i = .int .i64 j ∧ Hid (Keeps (ownB (.slice a3 o.data.length q3)) w4 wr ∧ ∃ xs, wr.ownsRow w2.heap.size 5 1 (.slice a3 o.data.length q3) o.data.length xs)) (fun i _ => o.data.length - (intOf i).toNat)
  case atStart => exact ⟨0, Nat.zero_le _, rfl, Keeps.refl _ _, _, O4.out⟩
  case round =>
    obtain ⟨j, hj, rfl, HW⟩ := hrel
    have i0 : (0 : Int) ≤ (j : Int) := Int.natCast_nonneg _
    by_cases hlt : j < o.data.length
    · obtain ⟨vb, ha⟩ := row_addr HW.out.2.choose_spec (by omega)
      subst ha
      have i2 : (j : Int) < (o.data.length : Int) := by omega
      obtain ⟨xs, hxs⟩ := HW.out.2
      have hc : ∃ u, wr.cell? ⟨vb, j, none⟩ = some u := by rw [hxs.cellAt j (by omega)]; exact ⟨_, List.getElem?_eq_getElem (by rw [hxs.1]; omega)⟩
      obtain ⟨u, hu⟩ := hc
      have hf := hxs.frozenAt j
      have HXS := hid hxs
      clear hxs
      go_wp2_with fail
      go_roundw
      case rel => exact ⟨j + 1, by omega, by go_num, HW.out.1.setCell (.inl (by simp [mem_ownB, Value.ownBlock])) _, row_set HXS.out _ _⟩
      case measure => simp [intOf]; omega
    · have hge : o.data.length ≤ j := by omega
      have W := hid HW.out.1
      have D5 : Hid (Duo2 w0 wr n rn (askD c o.data).1 r lv2 sv2 lv' sv' P) := D4.out.wrote W.out (fun g hg => by
        have h1 := HG.out g hg
        have h2 := HB0.out
        have h3 := HW2.out
        refine ⟨by rw [HBE.out]; exact HBN.out g h1.1 h1.2, fun hP => ?_, ?_, ?_⟩
        · have := HPB.out g hP; omega
        · omega
        · omega)
      have B5 : wr.cell? ⟨w.heap.size, 12, none⟩ = some (.slice ba o.data.length bc) := W.out.cellSome B4.out (fun hb => by have h := (HG.out _ hb).1; have := HW2.out; simp at h; omega)
      have A5 : Hid (BytesAt wr P (.slice ba o.data.length bc) o.data) := (A4.out.keep W.out (fun b hb hb' => by have := (HG.out b hb').1; have := HB0.out; have := HW2.out; omega)).mono (fun b _ hb => D4.out.old b hb)
      have M5 : Hid (ListAt msgL wr (fun b => w3.heap.size ≤ b ∧ Off n lv2 b) (.slice a4 ML.length q4) ML) := M4.out.keep W.out (fun b hb hb' => by have := (HG.out b hb').2; omega)
      have HRN : Hid (rn < w3.heap.size) := D3.out.ref.blk.lt
      go_wp2_with fail
      refine (rask_any wr w0.heap.size rn r P lv' sv' o.data ba bc D5.out.ref D5.out.lt A5.out (by omega) HLL.out.2).mono ?_
      unfold RAskPost
      rw [HKK.out.2, HJ.out, HER.out, HML.out]
      rintro e w6 ⟨a6, q6, lv3, sv3, rfl, hr6, hm6, hk6⟩
      have D6 := hid (D5.out.callR hr6 hk6)
      have M6 := hid hm6.list
      have M56 : Hid (ListAt msgL w6 (fun b => w3.heap.size ≤ b ∧ Off n lv2 b) (.slice a4 ML.length q4) ML) := M5.out.keep hk6 (fun b hb hb' => by simp at hb'; subst hb'; have := HRN.out; omega)
      clear hr6 hm6 hk6
      go_wp2_with fail
      refine (sameMsgs_any ML _ _ a4 a6 q4 q6 w6 M56.out M6.out).mono ?_
      rintro e w7 ⟨rfl, hk7⟩
      have D7 := hid (D6.out.beside hk7)
      clear hk7
      go_wp2_with fail
      go_ret
      exact ⟨rfl, _, _, _, _, _, _, _, D7.out, HKK.out.1, HVV.out⟩

set_option maxRecDepth 100000 in
set_option maxHeartbeats 6400000 in
theorem do_compact (w0 w : World) (n rn k : Nat) (o : OpD) (ea da ba : Option Addr) (ec dc bc : Nat) (H : PlaySt w0 w n rn k) (hk : k ≤ 60) (wk : (Lit.int .i64 o.kind).wf = true) (wn : (Lit.int .i64 o.num).wf = true) (hpl : placeOf o.kind 12 = (10 : Int))
    (hdt : BytesAt w (fun b => b < w0.heap.size) (.slice ba o.data.length bc) o.data) (hs : o.data.length ≤ 300) :
    Calls Try.prog 43 #[.pointer (some ⟨n, 0, none⟩), .pointer (some ⟨rn, 0, none⟩), opV o (.slice ea o.m.entries.length ec) (.slice da o.m.data.length dc) (.slice ba o.data.length bc)] w (DoPost w0 n rn k) := by
  obtain ⟨c, r, lv, sv, lv', sv', P, hd, hkin, hvt, hp0, hp1, hll⟩ := H
  have HD := hid hd
  have HP := hid hpl
  have HDT := hid hdt
  have HTK : Hid (∀ i, Kin (compactD c i o.data).1 (compactD r i o.data).1 ∧ (compactD r i o.data).2 = (compactD c i o.data).2) := fun i => kin_compact hkin i o.data
  have HCF : Hid (∀ i, (compactD c i o.data).1.ban = c.ban ∧ VotesOk (compactD c i o.data).1 ∧ 0 ≤ (compactD c i o.data).1.patience ∧ (compactD c i o.data).1.patience ≤ ((k + 1 : Nat) : Int) ∧ lastD (compactD c i o.data).1 ≤ 1099511627776 + 8 * ((k + 1 : Nat) : Int)) := fun i => by
    obtain ⟨g1, g2, g3, g4, g5⟩ := compact_fields hd.core.ok.commit i o.data
    exact ⟨g4, fun j hj => by rw [g1] at hj; rw [g2]; exact hvt j hj, by rw [g3]; exact hp0, by rw [g3]; omega, by omega⟩
  obtain ⟨CB, hCB⟩ : ∃ x, r.base = x := ⟨_, rfl⟩
  obtain ⟨CC, hCC⟩ : ∃ x, r.commit = x := ⟨_, rfl⟩
  have b0 : 0 ≤ CB := by rw [← hCB]; exact hd.ref.ok.base.1
  have b1 : CB ≤ CC := by rw [← hCB, ← hCC]; exact hd.ref.ok.base.2
  have b2 : CC ≤ CB + 5096 := by rw [← hCB, ← hCC]; have := hd.ref.ok.commit; have := hd.ref.ok.len; omega
  have b3 : CC ≤ 2199023255552 := by rw [← hCC]; have := hd.ref.ok.commit; have := hd.ref.ok.last; omega
  have h15 : w.cell? ⟨rn, 15, none⟩ = some (.int .i64 CB) := by rw [← hCB]; exact hd.ref.blk.cell 15
  have h14 : w.cell? ⟨rn, 14, none⟩ = some (.int .i64 CC) := by rw [← hCC]; exact hd.ref.blk.cell 14
  have hrn : rn < w.heap.size := hd.ref.blk.lt
  have HPL : Hid (∀ wx, Calls Try.prog 21 #[.int .i64 o.num, .int .i64 (CC - CB + 2)] wx fun e w' => e = .returned (.int .i64 (placeOf o.num (CC - CB + 2))) ∧ w' = wx) := fun wx => place_any o.num (CC - CB + 2) wx (by omega) (by omega) wn
  obtain ⟨PL, hPL⟩ : ∃ x, placeOf o.num (CC - CB + 2) = x := ⟨_, rfl⟩
  rw [hPL] at HPL
  have p0 : 0 ≤ PL := by rw [← hPL]; exact (placeOf_bd _ _ (by omega)).1
  have p1 : PL ≤ 6000 := by rw [← hPL]; have := (placeOf_bd o.num (CC - CB + 2) (by omega)).2; omega
  unfold opV
  clear hd hkin hvt hp0 hp1 hll hpl hdt hCB hCC hPL
  by_cases hpos : 0 < o.num
  · go_enter Try.func43, Try.ntmps43
    go_wp2_with fail
    refine (place_is 10 o.kind 12 _ (by omega) (by omega) wk HP.out).mono ?_
    rintro e w1 ⟨rfl, hwa⟩
    rw [hwa]
    clear hwa w1
    go_wp2_with fail
    refine Plan.wp_region_plan (fun wx => wx.cell? ⟨rn, 15, none⟩ = some (.int .i64 CB) ∧ wx.cell? ⟨rn, 14, none⟩ = some (.int .i64 CC)) 16 [(true, 0), (true, 1), (true, 2), (true, 3), (true, 4), (true, 5), (true, 6), (true, 7), (true, 8), (true, 9), (true, 10), (true, 11), (true, 12), (true, 13), (true, 14), (false, 15)] (by kernel_rfl) (by as_aux_lemma => kernel_rfl) (by kernel_rfl) (fun _ _ _ _ _ h => h) ?_ (fun hS => ?_)
    (· go_simp)
    simp only [Plan.pick, List.append_eq, List.cons_append, List.nil_append, Plan.g1, Plan.g2, Option.getD_some, List.drop_succ_cons, List.drop_zero]
    iterate 15 (first | refine Plan.tA ?_ | refine Plan.tY ?_ | refine Plan.pN ?_ | refine Plan.pU ?_ | fail)
    refine Plan.step ?_
    go_wp2_with fail
    refine (HPL.out _).mono ?_
    rintro e w1 ⟨rfl, hwa⟩
    rw [hwa]
    clear hwa w1
    go_wp2_with fail
    refine ⟨by go_simp, ?_⟩
    refine Plan.fin ?_
    go_wp2_with fail
    obtain ⟨I, hI⟩ : ∃ x, CB + PL = x := ⟨_, rfl⟩
    rw [hI]
    clear hI
    refine Plan.wp_region_plan (fun wx => wx.cell? ⟨w.heap.size, 12, none⟩ = some (.slice ba o.data.length bc)) 10 [(true, 0), (true, 1), (true, 2), (true, 3), (true, 6), (true, 7), (true, 8), (true, 9), (false, 4), (false, 5)] (by kernel_rfl) (by as_aux_lemma => kernel_rfl) (by kernel_rfl) (fun _ _ _ _ _ h => h) ?_ (fun hS => ?_)
    (· go_simp)
    simp only [Plan.pick, List.append_eq, List.cons_append, List.nil_append, Plan.g1, Plan.g2, Option.getD_some, List.drop_succ_cons, List.drop_zero]
    iterate 8 (first | refine Plan.tA ?_ | refine Plan.tY ?_ | refine Plan.pN ?_ | refine Plan.pU ?_ | fail)
    refine Plan.step ?_
    go_wp2_with fail
    refine calls_fold (fun wx => Keeps [] w wx ∧ wx.cell? ⟨w.heap.size, 12, none⟩ = some (.slice ba o.data.length bc)) ⟨by exact Keeps.K, by go_simp⟩ ?_
    rintro w2 ⟨k2, x2⟩
    have K2 := hid k2
    have B2 := hid x2
    clear k2 x2
    refine (lawBytes_any _ o.data w2 (HDT.out.k K2.out).1 (by omega)).mono ?_
    rintro e w3 ⟨a3, q3, rfl, o3, k3⟩
    have D3 := hid (HD.out.beside (K2.out.trans k3 (fun _ _ h => h)))
    have HW2 : Hid (w.heap.size < w2.heap.size) := World.block_lt_of_cell? _ _ B2.out
    have HN2 : Hid (n < w.heap.size) := (HD.out.core.lt n (by simp)).2
    have HPW : Hid (∀ b ∈ n :: ownB lv, b < w.heap.size) := fun b hb => (HD.out.core.lt b hb).2
    have B3 : Hid (w3.cell? ⟨w.heap.size, 12, none⟩ = some (.slice ba o.data.length bc)) := k3.cellSome B2.out (by simp)
    have A3 : Hid (BytesAt w3 (fun b => b < w0.heap.size) (.slice ba o.data.length bc) o.data) := HDT.out.k (K2.out.trans k3 (fun _ _ h => h))
    have E3 : Hid (BytesAt w3 (fun b => w2.heap.size ≤ b) (.slice a3 o.data.length q3) o.data) := Copied.bytes o3 (fun b hb _ => hb)
    clear o3 k3
    go_wp2_with fail
    refine ⟨B3.out, ?_⟩
    refine Plan.step ?_
    go_wp2_with fail
    refine (compact_any w3 w0.heap.size n c lv sv I o.data a3 q3 (fun b => w2.heap.size ≤ b) D3.out.core E3.out (by omega) (fun b hb => by have := HN2.out; have := HW2.out; omega)).mono ?_
    rintro e w4 ⟨rfl, lv2, sv2, hc4, hk4, hv4⟩
    have D4 : Hid (Duo2 w0 w4 n rn (compactD c I o.data).1 r lv2 sv2 lv' sv' P) := D3.out.callC hc4 (HCF.out I).1 hk4 hv4
    have B4 : Hid (w4.cell? ⟨w.heap.size, 12, none⟩ = some (.slice ba o.data.length bc)) := hk4.cellSome B3.out (fun hb => by have := HPW.out _ hb; simp at this)
    have A4 : Hid (BytesAt w4 P (.slice ba o.data.length bc) o.data) := (A3.out.keep hk4 (fun b hb hb' => by have := (D3.out.core.lt b hb').1; omega)).mono (fun b _ hb => D4.out.old b hb)
    clear hc4 hk4 hv4 A3 E3
    go_wp2_with fail
    refine ⟨B4.out, ?_⟩
    refine Plan.fin ?_
    go_wp2_with fail
    refine (rcompact_any w4 w0.heap.size rn r P lv' sv' I o.data ba bc D4.out.ref D4.out.lt A4.out (by omega)).mono ?_
    unfold RCompPost
    rw [(HTK.out I).2]
    rintro e w5 ⟨rfl, lv3, sv3, hr5, hk5⟩
    have D5 := hid (D4.out.callR hr5 hk5)
    clear hr5 hk5
    go_wp2_with fail
    go_ret
    exact ⟨rfl, _, _, _, _, _, _, _, D5.out, (HTK.out I).1, (HCF.out I).2⟩
  · have hneg : o.num ≤ 0 := by omega
    go_enter Try.func43, Try.ntmps43
    go_wp2_with fail
    refine (place_is 10 o.kind 12 _ (by omega) (by omega) wk HP.out).mono ?_
    rintro e w1 ⟨rfl, hwa⟩
    rw [hwa]
    clear hwa w1
    go_wp2_with fail
    obtain ⟨I, hI⟩ : ∃ x, o.num = x := ⟨_, rfl⟩
    rw [hI]
    clear hI
    refine Plan.wp_region_plan (fun wx => wx.cell? ⟨w.heap.size, 12, none⟩ = some (.slice ba o.data.length bc)) 10 [(true, 0), (true, 1), (true, 2), (true, 3), (true, 6), (true, 7), (true, 8), (true, 9), (false, 4), (false, 5)] (by kernel_rfl) (by as_aux_lemma => kernel_rfl) (by kernel_rfl) (fun _ _ _ _ _ h => h) ?_ (fun hS => ?_)
    (· go_simp)
    simp only [Plan.pick, List.append_eq, List.cons_append, List.nil_append, Plan.g1, Plan.g2, Option.getD_some, List.drop_succ_cons, List.drop_zero]
    iterate 8 (first | refine Plan.tA ?_ | refine Plan.tY ?_ | refine Plan.pN ?_ | refine Plan.pU ?_ | fail)
    refine Plan.step ?_
    go_wp2_with fail
    refine calls_fold (fun wx => Keeps [] w wx ∧ wx.cell? ⟨w.heap.size, 12, none⟩ = some (.slice ba o.data.length bc)) ⟨by exact Keeps.K, by go_simp⟩ ?_
    rintro w2 ⟨k2, x2⟩
    have K2 := hid k2
    have B2 := hid x2
    clear k2 x2
    refine (lawBytes_any _ o.data w2 (HDT.out.k K2.out).1 (by omega)).mono ?_
    rintro e w3 ⟨a3, q3, rfl, o3, k3⟩
    have D3 := hid (HD.out.beside (K2.out.trans k3 (fun _ _ h => h)))
    have HW2 : Hid (w.heap.size < w2.heap.size) := World.block_lt_of_cell? _ _ B2.out
    have HN2 : Hid (n < w.heap.size) := (HD.out.core.lt n (by simp)).2
    have HPW : Hid (∀ b ∈ n :: ownB lv, b < w.heap.size) := fun b hb => (HD.out.core.lt b hb).2
    have B3 : Hid (w3.cell? ⟨w.heap.size, 12, none⟩ = some (.slice ba o.data.length bc)) := k3.cellSome B2.out (by simp)
    have A3 : Hid (BytesAt w3 (fun b => b < w0.heap.size) (.slice ba o.data.length bc) o.data) := HDT.out.k (K2.out.trans k3 (fun _ _ h => h))
    have E3 : Hid (BytesAt w3 (fun b => w2.heap.size ≤ b) (.slice a3 o.data.length q3) o.data) := Copied.bytes o3 (fun b hb _ => hb)
    clear o3 k3
    go_wp2_with fail
    refine ⟨B3.out, ?_⟩
    refine Plan.step ?_
    go_wp2_with fail
    refine (compact_any w3 w0.heap.size n c lv sv I o.data a3 q3 (fun b => w2.heap.size ≤ b) D3.out.core E3.out (by omega) (fun b hb => by have := HN2.out; have := HW2.out; omega)).mono ?_
    rintro e w4 ⟨rfl, lv2, sv2, hc4, hk4, hv4⟩
    have D4 : Hid (Duo2 w0 w4 n rn (compactD c I o.data).1 r lv2 sv2 lv' sv' P) := D3.out.callC hc4 (HCF.out I).1 hk4 hv4
    have B4 : Hid (w4.cell? ⟨w.heap.size, 12, none⟩ = some (.slice ba o.data.length bc)) := hk4.cellSome B3.out (fun hb => by have := HPW.out _ hb; simp at this)
    have A4 : Hid (BytesAt w4 P (.slice ba o.data.length bc) o.data) := (A3.out.keep hk4 (fun b hb hb' => by have := (D3.out.core.lt b hb').1; omega)).mono (fun b _ hb => D4.out.old b hb)
    clear hc4 hk4 hv4 A3 E3
    go_wp2_with fail
    refine ⟨B4.out, ?_⟩
    refine Plan.fin ?_
    go_wp2_with fail
    refine (rcompact_any w4 w0.heap.size rn r P lv' sv' I o.data ba bc D4.out.ref D4.out.lt A4.out (by omega)).mono ?_
    unfold RCompPost
    rw [(HTK.out I).2]
    rintro e w5 ⟨rfl, lv3, sv3, hr5, hk5⟩
    have D5 := hid (D4.out.callR hr5 hk5)
    clear hr5 hk5
    go_wp2_with fail
    go_ret
    exact ⟨rfl, _, _, _, _, _, _, _, D5.out, (HTK.out I).1, (HCF.out I).2⟩

end Go.Proofs.Ytpppoajnbhipeaa

/- CorePlays: one call of a script, whichever. -/
namespace Go.Proofs.Ytpppoajnbhipeaa
open Go Go.RowKit

theorem do_any (w0 w : World) (n rn k : Nat) (o : OpD) (ea da ba : Option Addr) (ec dc bc : Nat) (H : PlaySt w0 w n rn k) (hk : k ≤ 60) (how : OpW o)
    (hl : ListAt entL w (fun b => b < w0.heap.size) (.slice ea o.m.entries.length ec) o.m.entries) (hdt : BytesAt w (fun b => b < w0.heap.size) (.slice da o.m.data.length dc) o.m.data) (hbt : BytesAt w (fun b => b < w0.heap.size) (.slice ba o.data.length bc) o.data)
    (hs : smallD o.m = true) (hs2 : o.data.length ≤ 300) :
    Calls Try.prog 43 #[.pointer (some ⟨n, 0, none⟩), .pointer (some ⟨rn, 0, none⟩), opV o (.slice ea o.m.entries.length ec) (.slice da o.m.data.length dc) (.slice ba o.data.length bc)] w (DoPost w0 n rn k) := by
  have hb := placeOf_bd o.kind 12 (by omega)
  obtain ⟨p, hp⟩ := Int.eq_ofNat_of_zero_le hb.1
  have wk : (Lit.int .i64 o.kind).wf = true := how.kind
  have wn : (Lit.int .i64 o.num).wf = true := how.num
  by_cases h1 : p ≤ 1
  · exact do_tick w0 w n rn k p o ea da ba ec dc bc H hk wk hp (by omega)
  by_cases h2 : p ≤ 7
  · exact do_hear w0 w n rn k p o ea da ba ec dc bc H hk wk hp (by omega) hl hdt hs
  by_cases h3 : p = 8
  · subst h3
    exact do_draw w0 w n rn k o ea da ba ec dc bc H wk hp
  by_cases h4 : p = 9
  · subst h4
    exact do_ask w0 w n rn k o ea da ba ec dc bc H hk wk hp hbt hs2
  by_cases h5 : p = 10
  · subst h5
    exact do_compact w0 w n rn k o ea da ba ec dc bc H hk wk wn hp hbt hs2
  have h6 : p = 11 := by omega
  subst h6
  exact do_changes w0 w n rn k o ea da ba ec dc bc H wk hp

end Go.Proofs.Ytpppoajnbhipeaa
