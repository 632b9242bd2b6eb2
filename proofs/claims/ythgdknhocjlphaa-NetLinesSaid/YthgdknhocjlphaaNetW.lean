/- NetLines, walked. -/
import Derived.Test.YthgdknhocjlphaaNetR
namespace Go.Proofs.Ythgdknhocjlphaa
open Go Go.RowKit

/-- One-byte messages. -/
def mailOf (want : List UInt8) : Mail := want.map fun b => ([b], false)
theorem mailOf_length (want : List UInt8) : (mailOf want).length = want.length := by simp [mailOf]
theorem mailOf_snoc (want : List UInt8) (x : UInt8) : mailOf (want ++ [x]) = mailOf want ++ [([x], false)] := by simp [mailOf]
theorem mailOf_small (want : List UInt8) (h : want.length ≤ 30) : Small (mailOf want) := by
  refine ⟨by rw [mailOf_length]; omega, fun m hm => ?_⟩
  obtain ⟨b, _, rfl⟩ := List.mem_map.1 hm
  simp
theorem mailOf_erase (want : List UInt8) (j : Nat) : (mailOf want).eraseIdx j = mailOf (want.eraseIdx j) := by
  unfold mailOf
  apply List.ext_getElem?
  intro i
  simp only [List.getElem?_eraseIdx, List.getElem?_map]
  split <;> rfl
theorem erase_parts (want : List UInt8) (j : Nat) : want.take j ++ want.drop (j + 1) = want.eraseIdx j := by rw [List.eraseIdx_eq_take_drop_succ]

/-- What stands at a round's head: the net and the list hold the same bytes; B: the heap's size when the call began. -/
def Lines (B m : Nat) (want : List UInt8) (v : Value) (w0 wr : World) : Prop :=
  ∃ F, NetRep wr B m (mailOf want) F ∧ (∀ b ∈ F, B ≤ b) ∧ Keeps [] w0 wr ∧ wr.ownsRow B 5 1 v want.length (u8s want) ∧ ∀ b ∈ ownB v, b ∉ F

theorem lines_take (n room : Nat) (want : List UInt8) (j : Nat) (u : UInt8) (F : List Nat) (w : World) (h : NetRep w n room (mailOf want) F) (hw : want.length ≤ 30) (hu : want[j]? = some u) :
    Calls Try.prog 10 #[.pointer (some ⟨n, 0, none⟩), .int .i64 j] w fun e w' => ∃ b c F', e = .returned (.tuple #[.slice (some ⟨b, 0, none⟩) 1 c, .bool true]) ∧ w'.cell? ⟨b, 0, none⟩ = some (.int .u8 u.toNat) ∧ NetRep w' n room (mailOf (want.eraseIdx j)) F' ∧ Turned F F' w w' := by
  have hlt : j < want.length := (List.getElem?_eq_some_iff.1 hu).1
  refine (Take_any n room (mailOf want) F j w h (mailOf_small want hw)).mono fun e w' ⟨a, c, hx⟩ => ?_
  have e0 : TakeS (mailOf want) j = (some [u], (mailOf want).eraseIdx j) := by
    unfold TakeS
    rw [if_neg (by rw [mailOf_length]; omega)]
    have := lookS_in (ms := mailOf want) (j := j) (m := ([u], false)) (by simp [mailOf, hu])
    rw [this]
    rfl
  rcases hx with ⟨h1, _⟩ | ⟨b, F', h1, _, h2, h3, h4, h5, _⟩
  · rw [e0] at h1; cases h1
  · rw [e0] at h1
    simp at h1
    obtain ⟨rfl, _⟩ := h1
    obtain ⟨vb, rfl⟩ := own_addr h3 (by simp)
    refine ⟨vb, c, F', h2, ?_, by rw [← mailOf_erase]; simpa using h4, h5⟩
    have := h3.cellAt 0 (by simp)
    simpa [u8s] using this

theorem lines_len (n room : Nat) (want : List UInt8) (q : Nat) (F : List Nat) (w : World) (h : NetRep w n room (mailOf want) F) (hq : want.length = q) :
    Calls Try.prog 11 #[.pointer (some ⟨n, 0, none⟩)] w fun e w' => e = .returned (.int .i64 q) ∧ w' = w :=
  (Len_any n room (mailOf want) F w h).mono fun e w' ⟨h1, h2⟩ => ⟨by rw [h1, mailOf_length, hq], h2⟩

theorem lines_send (n room : Nat) (want want' : List UInt8) (k : Nat) (x : Int) (F : List Nat) (v : Value) (w : World) (h : NetRep w n room (mailOf want) F) (hk : k < 256) (hr : Reads w 1 v 1 [.int .u8 k]) (hb : ∀ b, b ∈ ownB v → b < w.heap.size) (hw : want.length ≤ 30)
    (hok : (want.length < room ∧ x = 0 ∧ want' = want ++ [UInt8.ofNat k]) ∨ (room ≤ want.length ∧ x = 2 ∧ want' = want)) :
    Calls Try.prog 9 #[.pointer (some ⟨n, 0, none⟩), v] w fun e w' => e = .returned (.int .i64 x) ∧ ∃ F', NetRep w' n room (mailOf want') F' ∧ Turned F F' w w' := by
  have e1 : u8s [UInt8.ofNat k] = [.int .u8 k] := by simp [u8s]; omega
  refine (Send_any n room (mailOf want) F v [UInt8.ofNat k] w h (by rw [e1]; exact hr) (by simp) hb (by rw [mailOf_length]; omega)).mono fun e w' h => ?_
  have e2 : SendS room (mailOf want) [UInt8.ofNat k] = (x, mailOf want') := by
    unfold SendS
    rw [if_neg (by simp)]
    unfold sendS
    rw [mailOf_length]
    rcases hok with ⟨h1, rfl, rfl⟩ | ⟨h1, rfl, rfl⟩
    · rw [if_neg (by omega), mailOf_snoc]
    · rw [if_pos h1]
  rw [e2] at h
  exact h

/-- Behind a Send. -/
theorem lines_sent {B m : Nat} {want want' : List UInt8} {v : Value} {F F3 : List Nat} {w0 wr w3 : World} {o1 : Obj} (N3 : NetRep w3 B m (mailOf want') F3) (t3 : Turned F F3 (wr.alloc o1) w3) (F2 : ∀ b ∈ F, B ≤ b) (K2 : Keeps [] w0 wr) (hB : w0.heap.size = B)
    (O2 : wr.ownsRow B 5 1 v want.length (u8s want)) (D2 : ∀ b ∈ ownB v, b ∉ F) :
    NetRep w3 B m (mailOf want') F3 ∧ (∀ b ∈ F3, B ≤ b) ∧ Keeps [] w0 w3 ∧ w3.ownsRow B 5 1 v want.length (u8s want) ∧ ∀ b ∈ ownB v, b ∉ F3 := by
  have k0 : Keeps F wr w3 := ((Keeps.refl F wr).alloc _).trans t3.1 (fun _ _ h => h)
  have kz := K2.size
  refine ⟨N3, fun b hb => ?_, K2.nil_trans k0 (fun b hb => by have := F2 b hb; omega), ownsRow_keeps O2 k0 D2, fun b hb hb' => ?_⟩
  · rcases t3.2 b hb with h | h
    · exact F2 b h
    · simp at h; omega
  · rcases t3.2 b hb' with h | h
    · exact D2 b hb h
    · have := (ownB_ge O2 b hb).2
      simp at h; omega

/-- Behind the list's append. -/
theorem lines_snoc {B m k : Nat} {want want' : List UInt8} {v v2 : Value} {F3 : List Nat} {w0 w3 w4 : World} {o2 : Obj} (N3 : NetRep w3 B m (mailOf want') F3) (F3B : ∀ b ∈ F3, B ≤ b) (K3 : Keeps [] w0 w3) (hB : w0.heap.size = B) (O3 : w3.ownsRow B 5 1 v want.length (u8s want)) (D3 : ∀ b ∈ ownB v, b ∉ F3)
    (hw : want' = want ++ [UInt8.ofNat k]) (hk : k < 256) (hl : want.length = k) (ho : w4.ownsRow B 5 1 v2 (k + 1) (u8s want ++ [.int .u8 k])) (hgr : (w3.alloc o2).grownBy w4 v.ownBlock) (hat : v2.ownBlock = v.ownBlock ∨ v2.ownBlock = some (w3.alloc o2).heap.size) :
    Lines B m want' v2 w0 w4 := by
  have kv : Keeps (ownB v) w3 w4 := ((Keeps.refl (ownB v) w3).alloc _).grown hgr rfl rfl rfl rfl (fun k h => .inl (mem_ownB.2 h))
  have hlt := N3.lt
  have e1 : u8s want' = u8s want ++ [.int .u8 k] := by subst hw; simp [u8s]; omega
  refine ⟨F3, N3.keeps kv (fun b hb hb' => D3 b hb' hb), F3B, K3.nil_trans kv (fun b hb => by have := (ownB_ge O3 b hb).1; omega), ?_, fun b hb hb' => ?_⟩
  · rw [e1, show want'.length = k + 1 by subst hw; simp [hl]]
    exact ho
  · rw [mem_ownB] at hb
    rcases hat with h | h
    · rw [h] at hb
      exact D3 b (mem_ownB.2 hb) hb'
    · rw [h] at hb
      have := hlt b hb'
      simp at hb
      omega

/-- Behind a Take. -/
theorem lines_took {B m q : Nat} {want want' : List UInt8} {v : Value} {F F3 : List Nat} {w0 wr w3 : World} (N3 : NetRep w3 B m (mailOf want') F3) (t3 : Turned F F3 wr w3) (F2 : ∀ b ∈ F, B ≤ b) (K2 : Keeps [] w0 wr) (hB : w0.heap.size = B)
    (O2 : wr.ownsRow B 5 1 v q (u8s want)) (D2 : ∀ b ∈ ownB v, b ∉ F) :
    NetRep w3 B m (mailOf want') F3 ∧ (∀ b ∈ F3, B ≤ b) ∧ Keeps [] w0 w3 ∧ w3.ownsRow B 5 1 v q (u8s want) := by
  have kz := K2.size
  refine ⟨N3, fun b hb => ?_, K2.nil_trans t3.1 (fun b hb => by have := F2 b hb; omega), ownsRow_keeps O2 t3.1 D2⟩
  rcases t3.2 b hb with h | h
  · exact F2 b h
  · omega

/-- Behind the cut. -/
theorem lines_cut {B m q j : Nat} {want : List UInt8} {v3 v4 : Value} {F3 : List Nat} {w0 w3 w4 w5 : World} (N3 : NetRep w3 B m (mailOf (want.eraseIdx j)) F3) (F3B : ∀ b ∈ F3, B ≤ b) (K3 : Keeps [] w0 w3) (hB : w0.heap.size = B) (hq : want.length = q + 1) (hj : j < q + 1)
    (ho1 : w4.ownsRow w3.heap.size 5 1 v3 j ((u8s want).take j)) (K4 : Keeps [] w3 w4) (ho2 : w5.ownsRow w3.heap.size 5 1 v4 (j + (q - j)) ((u8s want).take j ++ (u8s want).drop (j + 1))) (hgr2 : w4.grownBy w5 v3.ownBlock) :
    (want.eraseIdx j).length = j + (q - j) ∧ Lines B m (want.eraseIdx j) v4 w0 w5 := by
  have K5 : Keeps [] w3 w5 := K4.grown hgr2 rfl rfl rfl rfl (fun k h => .inr (ownB_ge ho1 k (mem_ownB.2 h)).1)
  have hl : (want.eraseIdx j).length = j + (q - j) := by rw [List.length_eraseIdx, if_pos (by omega)]; omega
  have hlt := N3.lt
  have kz := K3.size
  refine ⟨hl, F3, N3.k K5, F3B, K3.nil_trans K5 (fun _ h => by cases h), ?_, fun b hb hb' => ?_⟩
  · have e : u8s (want.eraseIdx j) = (u8s want).take j ++ (u8s want).drop (j + 1) := by rw [← erase_parts]; simp [u8s, List.map_take, List.map_drop]
    rw [hl, e]
    exact ownsRow_base ho2 (by omega)
  · have := (ownB_ge ho2 b hb).1
    have := hlt b hb'
    omega

theorem own_cap {w : World} {base e size n c : Nat} {a : Option Addr} {xs : List Value} (h : w.ownsRow base e size (.slice a n c) n xs) (hn : 0 < n) : n ≤ c ∧ c ≤ maxLen := by
  rcases h.2 with ⟨h0, _⟩ | ⟨g, cap, cur, hv, _, _, h1, h2, _⟩
  · simp at h0; omega
  · simp at hv
    obtain ⟨_, rfl⟩ := hv
    exact ⟨h1, h2⟩

set_option maxRecDepth 100000 in
set_option maxHeartbeats 3200000 in
theorem lines_walk (room count : Int) (b off len cap : Nat) (a0 : Option Addr) (w : World) (wm : (Lit.int .i64 room).wf = true) (wc : (Lit.int .i64 count).wf = true) (hlen : len ≤ maxLen)
    (ha : 0 < len → a0 = some ⟨b, off, none⟩) (hz : ∀ j, j < len → ∃ z, w.cell? ⟨b, off + j, none⟩ = some (.int .i64 z) ∧ (Lit.int .i64 z).wf = true) :
    Calls Try.prog 3 #[.int .i64 room, .int .i64 count, .slice a0 len cap] w fun e w' => e = .returned (.bool true) ∧ Below w.heap.size w w' := by
  obtain ⟨i0, hi, hz0, hz1, hz2⟩ := info_parts Try.infoU8
  obtain ⟨p0, p1⟩ := placeOf_bd room 30 (by omega)
  obtain ⟨q0, q1⟩ := placeOf_bd count 40 (by omega)
  obtain ⟨m, hm⟩ : ∃ m : Nat, placeOf room 30 = m := ⟨(placeOf room 30).toNat, by omega⟩
  obtain ⟨cnt, hc⟩ : ∃ m : Nat, placeOf count 40 = m := ⟨(placeOf count 40).toNat, by omega⟩
  have m30 : m < 30 := by omega
  have c40 : cnt < 40 := by omega
  have rm : Hid (roomOf m = m) := by show _ = _; unfold roomOf; omega
  have PM := hid hm
  have PC := hid hc
  have HA := hid ha
  have HZ := hid hz
  have hl : len ≤ 9223372036854775807 := by unfold maxLen at hlen; omega
  clear p0 p1 q0 q1 hm hc ha hz hlen
  go_enter Try.func3, Try.ntmps3
  go_wp2_with fail
  refine (place_is m room 30 _ (by omega) (by omega) wm PM.out).mono ?_
  rintro e w' ⟨rfl, hw'⟩
  subst hw'
  go_wp2_with fail
  refine (netNew_any m _).mono ?_
  rintro e w1 ⟨rfl, n1, k1⟩
  rw [rm.out] at n1
  have N1 := hid n1
  have K1 := hid k1
  clear n1 k1
  go_wp2_with fail
  go_loopw [9, 10] (fun v i wr => ∃ (k n : Nat) (a : Option Addr) (c : Nat), k ≤ cnt ∧ n = min k m ∧ v = .slice a n c ∧ i = .int .i64 k ∧ Hid (∃ want, want.length = n ∧ Lines w'.heap.size m want v w' wr)) (fun _ i _ => cnt - (intOf i).toNat)
  case atStart => exact ⟨0, 0, none, 0, Nat.zero_le _, by simp, rfl, rfl, [], rfl, [w'.heap.size], N1.out, by simp, K1.out, World.ownsRow_nil _ _ _ _, fun b hb => by simp [mem_ownB, Value.ownBlock] at hb⟩
  case round =>
    obtain ⟨k, n, av, cv, hk, hn, rfl, rfl, HW⟩ := hrel
    obtain ⟨want, hwl, F, n2, f2, k2, o2, d2⟩ := HW.out
    clear HW
    have HWL := hid hwl
    have N2 := hid n2
    have F2 := hid f2
    have K2 := hid k2
    have O2 := hid o2
    have D2 := hid d2
    clear hwl n2 f2 k2 o2 d2
    have HN := hid hn
    clear hn
    have j0 : (0 : Int) ≤ (k : Int) := Int.natCast_nonneg _
    by_cases hlt : k < cnt
    · have i1 : (k : Int) < (cnt : Int) := by omega
      by_cases hkm : k < m
      · have hnk : k = n := by have := HN.out; omega
        subst hnk
        have i2 : (k : Int) < (m : Int) := by omega
        have HB : Hid (∀ wx : World, ∀ b, b ∈ ownB (.slice (some ⟨wx.heap.size, 0, none⟩) 1 1) → b < wx.heap.size + 1) := fun wx b hb => by simp [mem_ownB, Value.ownBlock] at hb; omega
        go_wp2_with fail
        refine (place_is cnt count 40 _ (by omega) (by omega) wc PC.out).mono ?_
        rintro e w2 ⟨rfl, hw2⟩
        subst hw2
        go_wp2_with fail
        refine (lines_send w'.heap.size m want (want ++ [UInt8.ofNat k]) k 0 F _ _ (by exact N2.out.k ((Keeps.refl [] _).alloc _)) (by omega) (by exact Reads.ofBlock (heap_alloc_new _ _) rfl (by decide)) (by intro b hb; simpa using HB.out _ b hb) (by have := HWL.out; omega) (.inl ⟨by have := HWL.out; omega, rfl, rfl⟩)).mono ?_
        rintro e w3 ⟨rfl, F3, n3, t3⟩
        obtain ⟨n3, f3, k3, o3, d3⟩ := lines_sent n3 t3 F2.out K2.out rfl O2.out D2.out
        clear t3
        have N3 := hid n3
        have F3B := hid f3
        have K3 := hid k3
        rw [HWL.out] at o3
        have O3 := hid o3
        have D3 := hid d3
        clear n3 f3 k3 o3 d3
        go_wp2_with (at_builtin; go_must (refine wpList_append_reads _ (by rfl) _ _ _ (by rfl) w'.heap.size 5 i0 (.int .u8 0) 1 1 Try.underlying26 hi hz0 hz1 hz2 rfl (by omega) (.slice av k cv) (by rfl) k (u8s want) (by exact ownsRow_keeps O3.out ((Keeps.refl [] _).alloc _) (fun _ _ h => by cases h)) (.slice _ _ _) (by rfl) 1 [.int .u8 k] (by exact Reads.ofBlock (heap_alloc_new _ _) rfl (by decide)) (by intro u hu; simp at hu; subst hu; rfl) (by omega) (le_maxLen (by omega)) (by exact Nat.le_trans K3.out.size ((Keeps.refl [] _).alloc _).size) ?_; intro av2 cv2 w4 ho hgr hat _))
        have HLN := hid (lines_snoc N3.out F3B.out K3.out rfl (v := .slice av k cv) (by rw [HWL.out]; exact O3.out) D3.out rfl (by omega) HWL.out ho.out hgr.out hat.out)
        go_wp2_with fail
        go_roundw
        case rel => exact ⟨k + 1, k + 1, av2, cv2, by omega, by omega, rfl, by go_num, _, by simp [HWL.out], HLN.out⟩
        case measure => simp [intOf]; omega
      · have hnk : m = n := by have := HN.out; omega
        subst hnk
        have i2 : (m : Int) ≤ (k : Int) := by omega
        have HB : Hid (∀ wx : World, ∀ b, b ∈ ownB (.slice (some ⟨wx.heap.size, 0, none⟩) 1 1) → b < wx.heap.size + 1) := fun wx b hb => by simp [mem_ownB, Value.ownBlock] at hb; omega
        go_wp2_with fail
        refine (place_is cnt count 40 _ (by omega) (by omega) wc PC.out).mono ?_
        rintro e w2 ⟨rfl, hw2⟩
        subst hw2
        go_wp2_with fail
        refine (lines_send w'.heap.size m want want k 2 F _ _ (by exact N2.out.k ((Keeps.refl [] _).alloc _)) (by omega) (by exact Reads.ofBlock (heap_alloc_new _ _) rfl (by decide)) (by intro b hb; simpa using HB.out _ b hb) (by have := HWL.out; omega) (.inr ⟨by have := HWL.out; omega, rfl, rfl⟩)).mono ?_
        rintro e w3 ⟨rfl, F3, n3, t3⟩
        have HLN := hid (lines_sent n3 t3 F2.out K2.out rfl O2.out D2.out)
        clear t3 n3
        go_wp2_with fail
        go_roundw
        case rel => exact ⟨k + 1, m, av, cv, by omega, by omega, rfl, by go_num, want, HWL.out, F3, HLN.out⟩
        case measure => simp [intOf]; omega
    · have i1 : (cnt : Int) ≤ (k : Int) := by omega
      have hn30 : n ≤ 30 := by have := HN.out; omega
      go_wp2_with fail
      refine (place_is cnt count 40 _ (by omega) (by omega) wc PC.out).mono ?_
      rintro e w2 ⟨rfl, hw2⟩
      subst hw2
      go_wp2_with fail
      go_loopw [9, 12] (fun v i wr => ∃ (k n : Nat) (a : Option Addr) (c : Nat), k ≤ len ∧ n ≤ 30 ∧ v = .slice a n c ∧ i = .int .i64 k ∧ Hid (∃ want, want.length = n ∧ Lines w'.heap.size m want v w' wr)) (fun _ i _ => len - (intOf i).toNat)
      case atStart => exact ⟨0, n, av, cv, Nat.zero_le _, hn30, rfl, rfl, want, HWL.out, F, N2.out, F2.out, K2.out, O2.out, D2.out⟩
      case round =>
        clear F2 N2 K2 O2 D2 HWL HN want
        obtain ⟨k2, n2, av2, cv2, hk2, hn2, rfl, rfl, HW⟩ := hrel
        obtain ⟨want, hwl, F, n3, f3, k3, o3, d3⟩ := HW.out
        clear HW
        have HWL := hid hwl
        have N2 := hid n3
        have F2 := hid f3
        have K2 := hid k3
        have O2 := hid o3
        have D2 := hid d3
        clear hwl n3 f3 k3 o3 d3
        have k20 : (0 : Int) ≤ (k2 : Int) := Int.natCast_nonneg _
        by_cases hlt2 : k2 < len ∧ 0 < n2
        · obtain ⟨hlt2, hn20⟩ := hlt2
          obtain ⟨q, rfl⟩ : ∃ q, n2 = q + 1 := ⟨n2 - 1, by omega⟩
          have ha := HA.out (by omega)
          subst ha
          obtain ⟨z, cz, wz⟩ := HZ.out k2 hlt2
          have dz := K2.out.cellSome cz (by simp)
          clear cz
          obtain ⟨r0, r1⟩ := placeOf_bd z ((q : Int) + 1) (by omega)
          obtain ⟨j, hj⟩ : ∃ j : Nat, placeOf z ((q : Int) + 1) = j := ⟨(placeOf z ((q : Int) + 1)).toNat, by omega⟩
          have j1 : (j : Int) < (q : Int) + 1 := by omega
          have PJ := hid hj
          clear hj r0 r1
          have ho := O2.out
          rw [HWL.out] at ho
          obtain ⟨g, hg⟩ := own_addr ho (by omega)
          obtain ⟨hqc, hcm⟩ := own_cap ho (by omega)
          subst hg
          have hjw : j < want.length := by rw [HWL.out]; omega
          obtain ⟨u, hu⟩ : ∃ u, want[j]? = some u := ⟨want[j], List.getElem?_eq_getElem hjw⟩
          have cu := (ho.cellAt j (by omega)).trans (by simp [u8s, hu] : (u8s want)[j]? = some (.int .u8 u.toNat))
          have HU := hid hu
          have O2' := hid ho
          clear hu hjw ho O2
          have j0 : (0 : Int) ≤ (j : Int) := Int.natCast_nonneg _
          have j2 : (q : Int) + 1 ≤ (cv2 : Int) := by omega
          have j3 : (0 : Int) ≤ (j : Int) + 1 := by omega
          have j4 : (j : Int) + 1 ≤ (q : Int) + 1 := by omega
          have j5 : (j : Int) ≤ (q : Int) + 1 := by omega
          have j6 : (j : Int) ≤ (cv2 : Int) := by omega
          have j7 : j ≤ cv2 := by omega
          have jc : ¬ cv2 = j := by omega
          have jk : j ≤ q + 1 := by omega
          have jk1 : j + 1 ≤ q + 1 := by omega
          have i3 : (k2 : Int) < (len : Int) := by omega
          have hcm' : (cv2 : Int) ≤ 9223372036854775807 := by unfold maxLen at hcm; omega
          have HM := hid hcm
          clear hcm
          obtain ⟨x, hje, HJ⟩ : ∃ x : Prop, ((cv2 = j + 1) ↔ x) ∧ Hid (x = True ∨ x = False) := by
            rcases Decidable.em (cv2 = j + 1) with h | h
            · exact ⟨True, by simp [h], .inl rfl⟩
            · exact ⟨False, by simp [h], .inr rfl⟩
          rcases HJ.out with rfl | rfl
          all_goals
            have HJE := hid hje
            go_wp2_with fail
            refine (place_is j z ((q : Int) + 1) _ (by omega) (by omega) wz PJ.out).mono ?_
            rintro e w2 ⟨rfl, hw2⟩
            subst hw2
            go_wp2_with fail
            refine (lines_take w'.heap.size m want j u F _ N2.out (by have := HWL.out; omega) HU.out).mono ?_
            rintro e w3 ⟨vb, vc, F3, rfl, cb, n3, t3⟩
            have cu3 := t3.1.cellSome cu (D2.out g (by simp [mem_ownB, Value.ownBlock]))
            obtain ⟨n3, f3, k3, o3⟩ := lines_took n3 t3 F2.out K2.out rfl O2'.out D2.out
            clear t3
            have N3 := hid n3
            have F3B := hid f3
            have K3 := hid k3
            have R1 : Hid (Reads w3 1 (.slice (some ⟨g, 0, none⟩) j cv2) j ((u8s want).take j)) := by
              have := Reads.piece o3 0 j cv2 (some ⟨g, 0, none⟩) (by omega) (by omega) HM.out (fun _ => by simp)
              show Reads _ _ _ _ _
              simpa using this
            have R2 : Hid (∀ a c, q - j ≤ c → c ≤ maxLen → (0 < q - j → a = some ⟨g, j + 1, none⟩) → Reads w3 1 (.slice a (q - j) c) (q - j) ((u8s want).drop (j + 1))) := fun a c h1 h2 h3 => by
              have := Reads.piece o3 (j + 1) (q - j) c a (by omega) h1 h2 (by simpa using h3)
              have hx := HWL.out
              rw [Nat.mul_one, Nat.mul_one, List.take_of_length_le (by simp; omega)] at this
              exact this
            clear n3 f3 k3 o3
            go_wp2_with fail
            refine Plan.wp_region_plan (fun w' => w'.cell? ⟨vb, 0, none⟩ = some (.int .u8 u.toNat) ∧ w'.cell? ⟨g, j, none⟩ = some (.int .u8 u.toNat)) 15 [(true, 0), (true, 1), (true, 2), (true, 3), (true, 4), (true, 5), (true, 6), (true, 7), (true, 8), (true, 9), (true, 10), (true, 11), (true, 12), (true, 13), (true, 14)] (by kernel_rfl) (by kernel_rfl) (by kernel_rfl) (fun _ _ _ _ _ h => h) ?_ (fun hS => ?_)
            (· exact ⟨cb, cu3⟩)
            simp only [Plan.pick, List.getElem?_cons_zero, List.getElem?_cons_succ, Option.getD_some, List.drop_succ_cons, List.drop_zero]
            repeat (first | (refine Plan.take (v := ?_) (a' := ?_) (by rfl) ?_ ?_ ?_; rotate_left 2; (· (intro w' hS'; (try dsimp only at hS'); go_simp; try with_reducible rfl)); (· (simp only [Act.put, List.setIfInBounds_toArray, List.set_cons_zero, List.set_cons_succ]; try with_reducible rfl))) | (refine Plan.pass (a' := ?_) (by rfl) ?_ ?_; rotate_left 1; (· (simp only [Act.put, List.setIfInBounds_toArray, List.set_cons_zero, List.set_cons_succ]; try with_reducible rfl))))
            refine Plan.fin ?_
            go_wp2_with fail
            have hw : IntKind.i64.wrap ((j : Int) + 1) = (j : Int) + 1 := IntWalk.i64_in _ (by omega)
            have ht : ((j : Int) + 1).toNat = j + 1 := by omega
            refine Plan.wp_region_plan (fun w' => w'.cell? ⟨g, j, none⟩ = some (.int .u8 u.toNat)) 8 [(true, 0), (true, 1), (true, 2), (true, 4), (true, 5), (true, 6), (true, 7), (false, 3)] (by kernel_rfl) (by kernel_rfl) (by kernel_rfl) (fun _ _ _ _ _ h => h) ?_ (fun hS => ?_)
            (· exact cu3)
            simp only [Plan.pick, List.getElem?_cons_zero, List.getElem?_cons_succ, Option.getD_some, List.drop_succ_cons, List.drop_zero]
            repeat (first | (refine Plan.take (v := ?_) (a' := ?_) (by rfl) ?_ ?_ ?_; rotate_left 2; (· (intro w' hS'; (try dsimp only at hS'); go_simp; try with_reducible rfl)); (· (simp only [Act.put, List.setIfInBounds_toArray, List.set_cons_zero, List.set_cons_succ]; try with_reducible rfl))) | (refine Plan.pass (a' := ?_) (by rfl) ?_ ?_; rotate_left 1; (· (simp only [Act.put, List.setIfInBounds_toArray, List.set_cons_zero, List.set_cons_succ]; try with_reducible rfl))))
            clear hw ht
            refine Plan.step ?_
            go_wp2_with (refine wpList_append_reads _ (by rfl) _ _ _ (by rfl) w3.heap.size 5 i0 _ 1 1 Try.underlying26 hi hz0 hz1 hz2 rfl (by omega) (.slice none 0 0) (by rfl) 0 [] (World.ownsRow_nil _ _ _ _) (.slice (some ⟨g, 0, none⟩) j cv2) (by rfl) j ((u8s want).take j) (by exact R1.out) (fun u hu => u8s_one want u (List.mem_of_mem_take hu)) (by omega) (le_maxLen (by omega)) (by exact Nat.le_refl _) ?_; intro av3 cv3 w4 ho3 hgr3 _ _)
            simp only [Nat.zero_add, List.nil_append] at *
            have HK := hid ((Keeps.refl [] w3).grown hgr3.out rfl rfl rfl rfl (fun _ h => by cases h))
            refine ⟨HK.out.cellSome cu3 (by simp), ?_⟩
            have hsz := HK.out.size
            refine Plan.fin ?_
            go_wp2_with (show wpList _ _ _ (⟨some 103, _, _, _, _, _⟩ :: _) _ _; go_must (refine wpList_append_reads _ (by rfl) _ _ _ (by rfl) w3.heap.size 5 i0 _ 1 1 Try.underlying26 hi hz0 hz1 hz2 rfl (by omega) (.slice av3 j cv3) (by rfl) j ((u8s want).take j) ho3.out (.slice _ _ _) (by rfl) (q - j) ((u8s want).drop (j + 1)) (by exact (R2.out _ _ (by first | omega | (have hh := HJE.out; simp at hh; omega)) (by first | exact Nat.zero_le _ | exact Nat.le_trans (Nat.sub_le _ _) HM.out | exact HM.out) (fun h => by first | rfl | (exfalso; have hh := HJE.out; simp at hh; omega))).keeps HK.out (fun _ _ h => by cases h)) (fun u hu => u8s_one want u (List.mem_of_mem_drop hu)) (by omega) (le_maxLen (by omega)) (by exact hsz) ?_; intro av4 cv4 w5 ho4 hgr4 _ _))
            have HLC := hid (lines_cut N3.out F3B.out K3.out rfl HWL.out (by omega) ho3.out HK.out ho4.out hgr4.out)
            go_wp2_with fail
            go_roundw
            case rel => exact ⟨k2 + 1, j + (q - j), av4, cv4, by omega, by omega, rfl, by go_num, _, HLC.out.1, HLC.out.2⟩
            case measure => simp [intOf]; omega
        · have hx : ¬ k2 < len ∨ (k2 < len ∧ n2 = 0) := by omega
          rcases hx with hx | ⟨hx, hx0⟩
          · have i3 : (len : Int) ≤ (k2 : Int) := by omega
            go_wp2_with (first
              | (go_at_call 11; go_must (refine (lines_len w'.heap.size m want n2 F _ N2.out HWL.out).mono ?_; rintro e w' ⟨rfl, hw'⟩; subst hw'))
              | (go_at_call 12; go_must (refine (awake_any _).mono ?_; rintro e w9 ⟨rfl, k9⟩; have K9 := hid k9; clear k9)))
            go_ret
            exact ⟨rfl, (K2.out.nil_trans K9.out (fun _ h => by cases h)).below (Nat.le_refl _) (fun _ h => by cases h)⟩
          · subst hx0
            have i3 : (k2 : Int) < (len : Int) := by omega
            go_wp2_with (first
              | (go_at_call 11; go_must (refine (lines_len w'.heap.size m want 0 F _ N2.out HWL.out).mono ?_; rintro e w' ⟨rfl, hw'⟩; subst hw'))
              | (go_at_call 12; go_must (refine (awake_any _).mono ?_; rintro e w9 ⟨rfl, k9⟩; have K9 := hid k9; clear k9)))
            go_ret
            exact ⟨rfl, (K2.out.nil_trans K9.out (fun _ h => by cases h)).below (Nat.le_refl _) (fun _ h => by cases h)⟩

end Go.Proofs.Ythgdknhocjlphaa
