/- CmdCuts, walked. -/
import Derived.Test.YtbbdmmhpbeleoaaGreatDoorCmL
import Derived.Test.YtbbdmmhpbeleoaaGreatDoorQ32

set_option linter.unusedSimpArgs false
set_option linter.unusedVariables false
namespace Go.Proofs.YtbbdmmhpbeleoaaGreatDoor
open Go Go.RowKit

def CopiedC (bs : List UInt8) (w : World) (e : Ending) (w' : World) : Prop := ∃ a c, e = .returned (.slice a bs.length c) ∧ w'.ownsRow w.heap.size 5 1 (.slice a bs.length c) bs.length (u8s bs) ∧ Keeps [] w w'
set_option maxHeartbeats 400000 in
theorem lawBytesC_any (v : Value) (bs : List UInt8) (w : World) (hr : Reads w 1 v bs.length (u8s bs)) (hb : bs.length ≤ 140737488355328) : Calls Tryz.prog 20 #[v] w (CopiedC bs w) := by
  obtain ⟨i0, hi, hz0, hz1, hz2⟩ := info_parts Tryz.infoU8
  go_enter Tryz.func20, Tryz.ntmps20
  go_wp2_with (at_builtin; refine wpList_append_copy _ rfl (.tmp 3) 28 rfl 5 i0 (.int .u8 0) 1 1 Tryz.underlying28 hi hz0 hz1 hz2 rfl (by decide) v bs.length (u8s bs) rfl hr (u8s_one bs) (by omega) (le_maxLen (by omega)) ?_)
  intro v' w' h1 h2
  obtain ⟨a, c, hv⟩ := len_form h1
  have H := hid hv
  clear hv
  go_wp2
  go_ret
  exact ⟨a, c, congrArg Ending.returned H.out, by rw [← H.out]; exact h1, Keeps.ofGrown h2 (fun _ h => by cases h)⟩

theorem getC_none {l : List UInt8} (h : (getC l).2 = false) : getC l = (zeroC, false) := by
  unfold getC at h ⊢
  split at h
  · cases h
  · rename_i hc
    rw [if_neg hc]

set_option maxRecDepth 100000 in
set_option maxHeartbeats 8000000 in
theorem cmdCuts_any (c : CmdD) (at_ : Int) (more : UInt8) (w : World) (hT : Tabs w) (hE : Errs w) (hI : CmdI c) (ha : (Lit.int .i64 at_).wf = true) : Calls Tryz.prog 4 #[cmdV c, .int .i64 at_, .int .u8 more.toNat] w fun e w' => e = .returned (.bool true) ∧ Keeps [] w w' := by
  obtain ⟨bs, hbs⟩ : ∃ b, shortC c = b := ⟨_, rfl⟩
  obtain ⟨bc, hbc⟩ : ∃ b, checkC c = b := ⟨_, rfl⟩
  have HBS := hid hbs
  have HBC := hid hbc
  have HSH := hid (fun w1 => short14_any c w1)
  have HC2 := hid (fun w1 h1 => r14Check_any c w1 h1)
  have HPUT := hid (fun h w1 => cmPut_any c (hI.w h) w1)
  obtain ⟨PC, hPC⟩ : ∃ PC, putC c = PC := ⟨_, rfl⟩
  have HPC := hid hPC
  have hpos : 0 < PC.length := by rw [← hPC]; exact putC_pos c
  have HLEN : Hid (shortC c = true → PC.length ≤ 2000080) := fun hs => by rw [← hPC]; exact putC_len c (hI.w hs)
  have HG1 : Hid (checkC c = true → ∀ k, k < PC.length → getC (PC.take k) = (zeroC, false)) := fun h0 k hk =>
    getC_none (getC_cut h0 (l := PC.take k) (t := PC.drop k) (by rw [hPC, List.take_append_drop]) (by intro h; have := congrArg List.length h; rw [List.length_drop] at this; simp at this; omega))
  have HG2 : Hid (checkC c = true → getC (PC ++ [more]) = (zeroC, false)) := fun h0 => by rw [← hPC]; exact getC_none (getC_more h0 (by simp))
  rw [hbs] at HSH
  rw [hbc] at HC2
  rw [hPC] at HPUT
  have HT := hid hT
  have HE := hid hE
  have HAT := hid ha
  clear hI hT hE hbs hbc hPC ha
  obtain ⟨ip, hi, hz0, hz1, hz2⟩ := info_parts Tryz.infoU8
  obtain ⟨kd, se, sq, fd, vr, vk, vn, vs⟩ := c
  have HCV : Hid (cmdV ⟨kd, se, sq, fd, vr, vk, vn, vs⟩ = .agg #[.int .i64 kd, .int .i64 se, .int .i64 sq, .string fd, .int .i64 vr, .int .i64 vk, .int .i64 vn, .string vs]) := rfl
  rw [HCV.out] at HSH HC2 HPUT ⊢
  clear HCV
  go_enter Tryz.func4, Tryz.ntmps4
  go_wp2_with fail
  obtain ⟨wA, hwA⟩ : ∃ wA, w.alloc (.cells #[.int .i64 kd, .int .i64 se, .int .i64 sq, .string fd, .int .i64 vr, .int .i64 vk, .int .i64 vn, .string vs] 25) = wA := ⟨_, rfl⟩
  have KA : Hid (Keeps [] w wA) := by rw [← hwA]; exact Keeps.K
  have HA : Hid (wA.heap[w.heap.size]? = some (.cells #[.int .i64 kd, .int .i64 se, .int .i64 sq, .string fd, .int .i64 vr, .int .i64 vk, .int .i64 vn, .string vs] 25 (0, 0))) := by rw [← hwA]; exact heap_alloc_new w _
  have HROW : Hid (∀ w', Keeps [] wA w' → w'.heap[w.heap.size]? = some (.cells #[.int .i64 kd, .int .i64 se, .int .i64 sq, .string fd, .int .i64 vr, .int .i64 vk, .int .i64 vn, .string vs] 25 (0, 0))) := fun w' g => (g.block _ (Array.getElem?_eq_some_iff.1 HA.out).1 (by simp)).trans HA.out
  rw [hwA]
  clear hwA
  refine (HSH.out _).mono ?_
  rintro e w1 ⟨rfl, hk⟩
  have K1 := hid hk
  have KW1 : Hid (Keeps [] w w1) := KA.out.trans hk (fun _ _ h => h)
  obtain ⟨⟨x0, x1, x2, x3, x4, x5, x6, x7⟩, -⟩ := blk8 (HROW.out _ hk)
  clear hk
  rcases bs with _ | _
  · go_wp2_with fail
    refine (awake14_any _ (HT.out.k KW1.out) (HE.out.k KW1.out)).mono ?_
    rintro e w2 ⟨rfl, hk⟩
    have K2 := hid hk
    clear hk
    go_wp2_with fail
    go_ret
    exact ⟨rfl, KW1.out.trans K2.out (fun _ _ h => h)⟩
  · go_wp2_with fail
    refine (HC2.out _ (HT.out.k KW1.out)).mono ?_
    rintro e w2 ⟨rfl, hk⟩
    have K2 : Hid (Keeps [] wA w2) := K1.out.trans hk (fun _ _ h => h)
    have KW2 : Hid (Keeps [] w w2) := KA.out.trans K2.out (fun _ _ h => h)
    clear hk x0 x1 x2 x3 x4 x5 x6 x7
    obtain ⟨⟨x0, x1, x2, x3, x4, x5, x6, x7⟩, -⟩ := blk8 (HROW.out _ K2.out)
    rcases bc with _ | _
    · go_wp2_with fail
      refine (awake14_any _ (HT.out.k KW2.out) (HE.out.k KW2.out)).mono ?_
      rintro e w3 ⟨rfl, hk⟩
      have K3 := hid hk
      clear hk
      go_wp2_with fail
      go_ret
      exact ⟨rfl, KW2.out.trans K3.out (fun _ _ h => h)⟩
    · go_wp2_with fail
      refine (HPUT.out HBS.out _).mono ?_
      rintro e w3 ⟨a3, q3, rfl, h3, hk⟩
      rw [List.nil_append] at h3 ⊢
      have K3 : Hid (Keeps [] wA w3) := K2.out.trans hk (fun _ _ h => h)
      have KW3 : Hid (Keeps [] w w3) := KA.out.trans K3.out (fun _ _ h => h)
      have R3 := hid (Reads.ofOwn h3)
      have hlen := HLEN.out HBS.out
      obtain ⟨-, ⟨h0, -⟩ | ⟨-, bb, off, c3, he, hq1, hq2, hq3, -⟩⟩ := Reads.ofOwn h3
      · omega
      simp only [Value.slice.injEq] at he
      obtain ⟨rfl, -, rfl⟩ := he
      clear hk h3 x0 x1 x2 x3 x4 x5 x6 x7
      have hn0 : ((PC.length : Int) == 0) = false := by simp; intro h; subst h; simp at hpos
      go_wp2_with fail
      refine (place_any at_ PC.length _ (by omega) (by omega) HAT.out).mono ?_
      obtain ⟨hp0, hp1⟩ := placeOf_bd at_ PC.length (by omega)
      obtain ⟨k, hk⟩ : ∃ k : Nat, placeOf at_ PC.length = (k : Int) := ⟨(placeOf at_ PC.length).toNat, by omega⟩
      rw [hk] at hp0 hp1 ⊢
      clear hk
      rintro e w4 ⟨rfl, hw4⟩
      rw [hw4]
      clear hw4 hn0
      have hkl : k < PC.length := by omega
      have hkq : k ≤ q3 := by omega
      go_wp2_with fail
      have hpl : PC.length ≤ 140737488355328 := by omega
      have RK : Reads w3 1 (.slice (some ⟨bb, off, none⟩) (PC.take k).length q3) (PC.take k).length (u8s (PC.take k)) := by
        have h := R3.out.piece1 0 k q3 (some ⟨bb, off, none⟩) (by omega) hkq hq2 (fun b o e _ => by simp only [Option.some.injEq, Addr.mk.injEq] at e; obtain ⟨rfl, rfl, _⟩ := e; rfl)
        have e : (PC.take k).length = k := by rw [List.length_take]; omega
        rw [e]
        exact h
      have hgk := cmGet_any (.slice (some ⟨bb, off, none⟩) (PC.take k).length q3) (PC.take k) w3 (HT.out.k KW3.out) (HE.out.k KW3.out) RK (by rw [List.length_take]; omega)
      rw [HG1.out HBC.out k hkl, show (PC.take k).length = k by rw [List.length_take]; omega] at hgk
      refine hgk.mono ?_
      clear hgk RK hkl hkq hp0 hp1
      rintro e w4 ⟨rfl, hk⟩
      have KW4 : Hid (Keeps [] w w4) := KW3.out.trans hk (fun _ _ h => h)
      have R4 := hid (R3.out.k0 hk)
      clear hk
      unfold cmdV zeroC
      dsimp only
      go_wp2_with fail
      refine (lawBytesC_any (.slice (some ⟨bb, off, none⟩) PC.length q3) PC _ (R4.out.k0 (by exact Keeps.K)) hpl).mono ?_
      rintro e w5 ⟨a5, q5, rfl, h5, hk⟩
      have KW5 : Hid (Keeps [] w w5) := KW4.out.trans (Keeps.trans (G := []) (by exact Keeps.K) hk (fun _ _ h => h)) (fun _ _ h => h)
      have O5 : Hid (w5.ownsRow w.heap.size 5 1 (.slice a5 PC.length q5) PC.length (u8s PC)) := ownsRow_base h5 (by have := KW4.out.size; simp; omega)
      have hw5 : w.heap.size ≤ w5.heap.size := KW5.out.size
      clear hk h5
      have hpl1 : PC.length + 1 ≤ 140737488355328 := by omega
      go_wp2_with (at_builtin; go_must (refine wpList_putRow _ (by rfl) _ _ (by rfl) w.heap.size ip hi hz0 hz1 hz2 (.slice a5 PC.length q5) (by rfl) PC PC.length rfl (ownsRow_keeps O5.out (Keeps.trans (F := []) (G := []) (Keeps.refl [] w5) (by exact Keeps.K) (fun _ _ h => h)) (fun _ _ h => by cases h)) _ (by rfl) [more] (Reads.one1 (heap_alloc_new _ _) rfl) (by simpa using hpl1) (by simp; omega) ?_; intro a6 q6 w6 ho hk))
      have KW6 : Hid (Keeps [] w w6) := hk.out w (Nat.le_refl _) (by have kk := KW5.out; exact Keeps.K)
      have R6 : Reads w6 1 (.slice a6 (PC ++ [more]).length q6) (PC ++ [more]).length (u8s (PC ++ [more])) := by
        have h := Reads.ofOwn ho.out
        rw [List.length_append]
        exact h
      have hgm := cmGet_any (.slice a6 (PC ++ [more]).length q6) (PC ++ [more]) w6 (HT.out.k KW6.out) (HE.out.k KW6.out) R6 (by rw [List.length_append]; exact hpl1)
      rw [HG2.out HBC.out, show (PC ++ [more]).length = PC.length + 1 by rw [List.length_append]; rfl] at hgm
      refine hgm.mono ?_
      clear hgm R6 ho hk
      rintro e w7 ⟨rfl, hk⟩
      have KW7 : Hid (Keeps [] w w7) := KW6.out.trans hk (fun _ _ h => h)
      clear hk
      unfold cmdV zeroC
      dsimp only
      go_wp2_with fail
      refine (awake14_any _ (HT.out.k (KW7.out.trans (G := []) (by exact Keeps.K) (fun _ _ h => h))) (HE.out.k (KW7.out.trans (G := []) (by exact Keeps.K) (fun _ _ h => h)))).mono ?_
      rintro e w8 ⟨rfl, hk⟩
      have KW8 : Hid (Keeps [] w w8) := KW7.out.trans (Keeps.trans (G := []) (by exact Keeps.K) hk (fun _ _ h => h)) (fun _ _ h => h)
      clear hk
      go_wp2_with fail
      go_ret
      exact ⟨rfl, KW8.out⟩

end Go.Proofs.YtbbdmmhpbeleoaaGreatDoor
