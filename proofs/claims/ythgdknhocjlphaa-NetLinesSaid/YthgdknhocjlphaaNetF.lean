/- (*net.Net).Spoil. -/
import Derived.Test.YthgdknhocjlphaaNetE
import Derived.Test.YthgdknhocjlphaaBytes
namespace Go.Proofs.Ythgdknhocjlphaa
open Go Go.RowKit

set_option maxHeartbeats 400000 in
theorem Spoil_out (n : Nat) (i at_ by_ : Int) (a : Option Addr) (k c : Nat) (w : World) (hl : w.cell? ⟨n, 1, none⟩ = some (.slice a k c)) (hi : i < 0 ∨ (k : Int) ≤ i) :
    Calls Try.prog 14 #[.pointer (some ⟨n, 0, none⟩), .int .i64 i, .int .i64 at_, .int .i64 by_] w fun e w' => e = .returned (.bool false) ∧ w' = w := by
  have H := hid hi
  clear hi
  go_enter Try.func14, Try.ntmps14
  go_wp2_with (go_at_call 21; refine (none_is true _ _ _ _ _ _ hl (by simp [H.out])).mono ?_; rintro e w' ⟨rfl, rfl⟩)
  go_ret
  exact ⟨rfl, rfl⟩

set_option maxHeartbeats 400000 in
theorem Spoil_was (n j g k cap : Nat) (at_ by_ : Int) (w : World) (hl : w.cell? ⟨n, 1, none⟩ = some (.slice (some ⟨g, 0, none⟩) k cap)) (hj : j < k) (_hk : k ≤ 100000)
    (hs : w.cell? ⟨g, j * 2 + 1, none⟩ = some (.bool true)) :
    Calls Try.prog 14 #[.pointer (some ⟨n, 0, none⟩), .int .i64 j, .int .i64 at_, .int .i64 by_] w fun e w' => e = .returned (.bool false) ∧ w' = w := by
  have j0 : (0 : Int) ≤ (j : Int) := Int.natCast_nonneg _
  have j1 : (j : Int) < (k : Int) := by omega
  have HB : Hid (false = decide ((j : Int) < 0 ∨ (k : Int) ≤ j)) := by show _ = _; simp; omega
  go_enter Try.func14, Try.ntmps14
  go_wp2_with (go_at_call 21; refine (none_is false _ _ _ _ _ _ hl HB.out).mono ?_; rintro e w' ⟨rfl, rfl⟩)
  go_ret
  exact ⟨rfl, rfl⟩

set_option maxHeartbeats 400000 in
theorem Spoil_zero (n j g k cap : Nat) (at_ by_ : Int) (w : World) (hl : w.cell? ⟨n, 1, none⟩ = some (.slice (some ⟨g, 0, none⟩) k cap)) (hj : j < k) (_hk : k ≤ 100000)
    (hs : w.cell? ⟨g, j * 2 + 1, none⟩ = some (.bool false)) (hby : (bits .and .i64 by_ 255 == 0) = true) :
    Calls Try.prog 14 #[.pointer (some ⟨n, 0, none⟩), .int .i64 j, .int .i64 at_, .int .i64 by_] w fun e w' => e = .returned (.bool false) ∧ w' = w := by
  have j0 : (0 : Int) ≤ (j : Int) := Int.natCast_nonneg _
  have j1 : (j : Int) < (k : Int) := by omega
  have HB : Hid (false = decide ((j : Int) < 0 ∨ (k : Int) ≤ j)) := by show _ = _; simp; omega
  go_enter Try.func14, Try.ntmps14
  go_wp2_with (go_at_call 21; refine (none_is false _ _ _ _ _ _ hl HB.out).mono ?_; rintro e w' ⟨rfl, rfl⟩)
  go_ret
  exact ⟨rfl, rfl⟩

set_option maxHeartbeats 800000 in
theorem Spoil_do (n j g k cap : Nat) (at_ by_ : Int) (w : World) (hl : w.cell? ⟨n, 1, none⟩ = some (.slice (some ⟨g, 0, none⟩) k cap)) (hj : j < k) (_hk : k ≤ 100000)
    (vb bl bc : Nat) (x : UInt8) (kk : Nat) (hkk : kk < bl) (hbl2 : bl ≤ 140737488355328) (hat : at_.tmod bl = (kk : Int) ∨ at_.tmod bl = (kk : Int) - bl)
    (hv : w.cell? ⟨g, j * 2, none⟩ = some (.slice (some ⟨vb, 0, none⟩) bl bc)) (hs : w.cell? ⟨g, j * 2 + 1, none⟩ = some (.bool false)) (hx : w.cell? ⟨vb, kk, none⟩ = some (.int .u8 x.toNat))
    (hf : w.frozen? ⟨vb, kk, none⟩ = false) (hf2 : w.frozen? ⟨g, j * 2 + 1, none⟩ = false) (hne : vb ≠ g) (hby : (bits .and .i64 by_ 255 == 0) = false) :
    Calls Try.prog 14 #[.pointer (some ⟨n, 0, none⟩), .int .i64 j, .int .i64 at_, .int .i64 by_] w fun e w' => e = .returned (.bool true) ∧
      w' = (w.setCell ⟨vb, kk, none⟩ (.int .u8 (x ^^^ byteOf by_).toNat)).setCell ⟨g, j * 2 + 1, none⟩ (.bool true) := by
  have hbl : (bl : Int) ≠ 0 := by omega
  have j0 : (0 : Int) ≤ (j : Int) := Int.natCast_nonneg _
  have j1 : (j : Int) < (k : Int) := by omega
  have k0 : (0 : Int) ≤ (kk : Int) := Int.natCast_nonneg _
  have k1 : (kk : Int) < (bl : Int) := by omega
  have HB : Hid (false = decide ((j : Int) < 0 ∨ (k : Int) ≤ j)) := by show _ = _; simp; omega
  have HX := hid (xor_mod x by_)
  have hc2 : (w.setCell ⟨vb, kk, none⟩ (.int .u8 (bits .xor .u8 (x.toNat : Int) (by_ % 256)))).cell? ⟨g, j * 2 + 1, none⟩ = some (.bool false) := by
    rw [World.cell?_setCell_other _ _ _ _ (by simp)]; exact hs
  rcases hat with hat | hat
  · go_enter Try.func14, Try.ntmps14
    go_wp2_with (go_at_call 21; refine (none_is false _ _ _ _ _ _ hl HB.out).mono ?_; rintro e w' ⟨rfl, rfl⟩)
    go_ret
    exact ⟨rfl, by rw [HX.out]⟩
  · have hlt : (kk : Int) - bl < 0 := by omega
    have hadd : IntKind.i64.wrap ((kk : Int) - bl + bl) = (kk : Int) := by rw [Int.sub_add_cancel]; exact IntWalk.i64_in _ (by omega)
    go_enter Try.func14, Try.ntmps14
    go_wp2_with (go_at_call 21; refine (none_is false _ _ _ _ _ _ hl HB.out).mono ?_; rintro e w' ⟨rfl, rfl⟩)
    go_ret
    exact ⟨rfl, by rw [HX.out]⟩

/-- Where at lies among so many bytes. -/
theorem placeOf_bd (v n : Int) (h : 0 < n) : 0 ≤ placeOf v n ∧ placeOf v n < n := by
  have a1 : v.tmod n < n := Int.tmod_lt_of_pos v h
  have a2 := Int.lt_tmod_of_pos v h
  unfold placeOf
  split <;> omega
theorem placeOf_tmod (v n : Int) : v.tmod n = placeOf v n ∨ v.tmod n = placeOf v n - n := by
  unfold placeOf
  split <;> omega

def spoilB (bs : List UInt8) (at_ by_ : Int) : List UInt8 := bs.set (placeOf at_ bs.length).toNat ((bs.getD (placeOf at_ bs.length).toNat 0) ^^^ byteOf by_)
@[simp] theorem spoilB_length (bs : List UInt8) (at_ by_ : Int) : (spoilB bs at_ by_).length = bs.length := by simp [spoilB]

/-- What Spoil answers, what it leaves. -/
def SpoilS (ms : Mail) (i at_ by_ : Int) : Bool × Mail := if i < 0 ∨ (ms.length : Int) ≤ i then (false, ms) else
  match ms[i.toNat]? with
  | some m => if m.2 = true ∨ by_ % 256 = 0 then (false, ms) else (true, ms.set i.toNat (spoilB m.1 at_ by_, true))
  | none => (false, ms)

theorem mcells_set : ∀ (vs : List Value) (ms : Mail) (j : Nat) (b : List UInt8) (s : Bool), vs.length = ms.length → j < ms.length → mcells vs (ms.set j (b, s)) = (mcells vs ms).set (j * 2 + 1) (.bool s)
  | [], [], _, _, _, _, h => by simp at h
  | v :: vs, m :: ms, 0, b, s, _, _ => rfl
  | v :: vs, m :: ms, j + 1, b, s, h, g => by
    simp only [List.length_cons] at h g
    simp only [List.set_cons_succ, mcells, mcells_set vs ms j b s (by omega) (by omega), show (j + 1) * 2 + 1 = j * 2 + 1 + 1 + 1 by omega]
  | [], m :: ms, _, _, _, h, _ => by simp at h
  | v :: vs, [], _, _, _, h, _ => by simp at h

theorem Msgs.apart {w : World} {et : TypeId} {lv : Value} {vs : List Value} {ms : Mail} {F : List Nat} (h : Msgs w et lv vs ms F) {i j : Nat} {u v : Value} (hi : vs[i]? = some u) (hj : vs[j]? = some v) (hne : i ≠ j) : ∀ b ∈ ownB u, b ∉ ownB v := by
  have hnd := h.nd
  rw [h.fp] at hnd
  exact flat_apart ownB (List.nodup_append.1 hnd).2.1 hi hj hne

theorem Msgs.list_apart {w : World} {et : TypeId} {lv : Value} {vs : List Value} {ms : Mail} {F : List Nat} (h : Msgs w et lv vs ms F) {i : Nat} {u : Value} (hi : vs[i]? = some u) : ∀ b ∈ ownB lv, b ∉ ownB u := by
  have hnd := h.nd
  rw [h.fp] at hnd
  intro b hb hb'
  exact (List.nodup_append.1 hnd).2.2 b hb b (List.mem_flatMap.2 ⟨u, List.mem_of_getElem? hi, hb'⟩) rfl

theorem u8s_set (bs : List UInt8) (k : Nat) (b : UInt8) : u8s (bs.set k b) = (u8s bs).set k (.int .u8 b.toNat) := by
  unfold u8s; rw [List.map_set]

/-- A byte turned, the mark laid. -/
theorem Msgs.spoilt {w : World} {et : TypeId} {lv : Value} {vs : List Value} {ms : Mail} {F : List Nat} (h : Msgs w et lv vs ms F) {j g cap vb bc kk : Nat} {b : UInt8} {m : List UInt8 × Bool} (hlv : lv = .slice (some ⟨g, 0, none⟩) ms.length cap)
    (hv : vs[j]? = some (.slice (some ⟨vb, 0, none⟩) m.1.length bc)) (hm : ms[j]? = some m) :
    Msgs ((w.setCell ⟨vb, kk, none⟩ (.int .u8 b.toNat)).setCell ⟨g, j * 2 + 1, none⟩ (.bool true)) et lv vs (ms.set j (m.1.set kk b, true)) F ∧
      Keeps (ownB lv ++ ownB (.slice (some ⟨vb, 0, none⟩) m.1.length bc)) w ((w.setCell ⟨vb, kk, none⟩ (.int .u8 b.toNat)).setCell ⟨g, j * 2 + 1, none⟩ (.bool true)) := by
  subst hlv
  have hj : j < ms.length := (List.getElem?_eq_some_iff.1 hm).1
  have hbo := h.body j _ _ hv hm
  obtain ⟨o1, g1⟩ := hbo.stored kk (.int .u8 b.toNat)
  have hgb : g ∉ ownB (.slice (some ⟨vb, 0, none⟩) m.1.length bc) := h.list_apart hv g (by simp [mem_ownB, Value.ownBlock])
  have hne : vb ≠ g := fun e => hgb (by simp [mem_ownB, Value.ownBlock, e])
  have K1 : Keeps [vb] w (w.setCell ⟨vb, kk, none⟩ (.int .u8 b.toNat)) := (Keeps.refl _ _).setCell (.inl (by simp)) _
  have oL := ownsRow_keeps h.own K1 (fun x hx => by simp [mem_ownB, Value.ownBlock] at hx; subst hx; simp [Ne.symm hne])
  obtain ⟨o2, g2⟩ := oL.stored (j * 2 + 1) (.bool true)
  have K2 : Keeps [g] (w.setCell ⟨vb, kk, none⟩ (.int .u8 b.toNat)) ((w.setCell ⟨vb, kk, none⟩ (.int .u8 b.toNat)).setCell ⟨g, j * 2 + 1, none⟩ (.bool true)) := (Keeps.refl _ _).setCell (.inl (by simp)) _
  refine ⟨⟨by simp [h.len], ?_, fun i v m' hv' hm' => ?_, h.fp, h.nd⟩, ?_⟩
  · rw [List.length_set, mcells_set _ _ _ _ _ h.len hj]; exact o2
  · by_cases hij : i = j
    · subst hij
      have e1 := hv'.symm.trans hv
      rw [List.getElem?_set_self hj] at hm'
      cases hm'
      cases e1
      simp only [List.length_set, u8s_set]
      exact ownsRow_keeps o1 K2 (fun x hx => by simp [mem_ownB, Value.ownBlock] at hx; subst hx; simp [hne])
    · rw [List.getElem?_set_ne (Ne.symm hij)] at hm'
      refine ownsRow_keeps (ownsRow_keeps (h.body i v m' hv' hm') K1 (fun x hx => ?_)) K2 (fun x hx => ?_)
      · intro e
        simp at e
        subst e
        exact h.apart hv' hv hij x hx (by simp [mem_ownB, Value.ownBlock])
      · intro e
        simp at e
        subst e
        exact h.list_apart hv' x (by simp [mem_ownB, Value.ownBlock]) hx
  · exact ((K1.mono (fun x _ hx => by simp at hx; subst hx; simp [mem_ownB, Value.ownBlock])).trans (K2.mono (G := ownB (.slice (some ⟨g, 0, none⟩) ms.length cap) ++ ownB (.slice (some ⟨vb, 0, none⟩) m.1.length bc)) (fun x _ hx => by simp at hx; subst hx; simp [mem_ownB, Value.ownBlock])) (fun _ _ h => h))

theorem Spoil_any (n room : Nat) (ms : Mail) (F : List Nat) (i at_ by_ : Int) (w : World) (h : NetRep w n room ms F) (hs : Small ms) (hne : ∀ m ∈ ms, m.1 ≠ []) :
    Calls Try.prog 14 #[.pointer (some ⟨n, 0, none⟩), .int .i64 i, .int .i64 at_, .int .i64 by_] w fun e w' => e = .returned (.bool (SpoilS ms i at_ by_).1) ∧ NetRep w' n room (SpoilS ms i at_ by_).2 F ∧ Keeps F w w' := by
  have h' := h
  obtain ⟨lv, vs, G, hb, hm, rfl, hn⟩ := h
  unfold SpoilS
  by_cases hi : i < 0 ∨ (ms.length : Int) ≤ i
  · obtain ⟨a, c, rfl⟩ := hm.form
    rw [if_pos hi]
    exact (Spoil_out n i at_ by_ a ms.length c w (by simpa using cell_of_block hb 1) hi).mono fun e w' ⟨he, hw⟩ => by
      subst hw
      exact ⟨he, h', Keeps.refl _ _⟩
  · rw [if_neg hi]
    obtain ⟨j, rfl⟩ := Int.eq_ofNat_of_zero_le (show 0 ≤ i by omega)
    obtain ⟨g, cap, v, m, hlv, hv, hmj, c0, c1, ho, f0, f1, hg, _⟩ := hm.at j (by omega)
    have c : w.cell? ⟨n, 1, none⟩ = some lv := by simpa using cell_of_block hb 1
    rw [hlv] at c
    simp only [Int.toNat_natCast, hmj]
    by_cases hsp : m.2 = true
    · rw [if_pos (.inl hsp)]
      rw [hsp] at c1
      exact (Spoil_was n j g ms.length cap at_ by_ w c (by omega) hs.1 c1).mono fun e w' ⟨he, hw⟩ => by
        subst hw
        exact ⟨he, h', Keeps.refl _ _⟩
    · have hsp' : m.2 = false := by simpa using hsp
      rw [hsp'] at c1
      by_cases hz : by_ % 256 = 0
      · rw [if_pos (.inr hz)]
        exact (Spoil_zero n j g ms.length cap at_ by_ w c (by omega) hs.1 c1 (by rw [and255, hz]; rfl)).mono fun e w' ⟨he, hw⟩ => by
          subst hw
          exact ⟨he, h', Keeps.refl _ _⟩
      · rw [if_neg (by rintro (h1 | h1); exact hsp h1; exact hz h1)]
        have hmem := List.mem_of_getElem? hmj
        have hpos : 0 < m.1.length := List.length_pos_iff.2 (hne m hmem)
        obtain ⟨p0, p1⟩ := placeOf_bd at_ m.1.length (by omega)
        obtain ⟨kk, hkk⟩ := Int.eq_ofNat_of_zero_le p0
        have hklt : kk < m.1.length := by omega
        obtain ⟨vb, bc, rfl, _, _⟩ := ho.form hpos
        have hx : w.cell? ⟨vb, kk, none⟩ = some (.int .u8 (m.1[kk]).toNat) := by
          rw [ho.cellAt kk (by omega), u8s_get _ _ hklt]
        have hvg : vb ≠ g := fun e => hm.list_apart hv g hg (by simp [mem_ownB, Value.ownBlock, e])
        have hsb : spoilB m.1 at_ by_ = m.1.set kk (m.1[kk] ^^^ byteOf by_) := by
          unfold spoilB
          rw [hkk]
          simp only [Int.toNat_natCast, List.getD_eq_getElem?_getD, List.getElem?_eq_getElem hklt, Option.getD_some]
        refine (Spoil_do n j g ms.length cap at_ by_ w c (by omega) hs.1 vb m.1.length bc m.1[kk] kk hklt (hs.2 m hmem) (by rw [← hkk]; exact placeOf_tmod _ _) c0 c1 hx (ho.frozenAt _) f1 hvg (by rw [and255]; simpa using hz)).mono fun e w' ⟨he, hw⟩ => ?_
        obtain ⟨hM, hK⟩ := hm.spoilt (kk := kk) (b := m.1[kk] ^^^ byteOf by_) hlv hv hmj
        subst hw
        have hKF : Keeps (n :: G) w ((w.setCell ⟨vb, kk, none⟩ (.int .u8 (m.1[kk] ^^^ byteOf by_).toNat)).setCell ⟨g, j * 2 + 1, none⟩ (.bool true)) := hK.mono (fun x _ hx => List.mem_cons_of_mem _ (by
          rw [hm.fp]
          rcases List.mem_append.1 hx with hx | hx
          · exact List.mem_append_left _ hx
          · exact List.mem_append_right _ (List.mem_flatMap.2 ⟨_, List.mem_of_getElem? hv, hx⟩)))
        refine ⟨he, ⟨lv, vs, G, ?_, by rw [hsb]; exact hM, rfl, hn⟩, hKF⟩
        rw [hK.block n (Array.getElem?_eq_some_iff.1 hb).1 (fun hx => hn (by
          rw [hm.fp]
          rcases List.mem_append.1 hx with hx | hx
          · exact List.mem_append_left _ hx
          · exact List.mem_append_right _ (List.mem_flatMap.2 ⟨_, List.mem_of_getElem? hv, hx⟩)))]
        exact hb

end Go.Proofs.Ythgdknhocjlphaa
