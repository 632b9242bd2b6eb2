/- ClientPlays, walked. -/
import Derived.Test.YtnjdepojmnniaaaGreatDoorClU

set_option linter.unusedSimpArgs false
set_option linter.unusedVariables false
namespace Go.Proofs.YtnjdepojmnniaaaGreatDoor
open Go Go.RowKit

/-- A whole row goes into the block that was made last: the operation, at the list of a plain region's operations. -/
theorem wpList_store_new2 {P : Program} {ops : Array Oper} {rest : List Oper} {op : Oper} {a : Act} {w : World} {Q : Exit → Act → World → Prop} (hgd : op.guard = none) (ty : TypeId) (x y : Operand) (ho : op.op = .store ty x y)
    (c c' : Array Value) (hx : a.eval x = .pointer (some ⟨w.heap.size, 0, none⟩)) (hy : a.eval y = .agg c') (hi : (P.info? ty).map (·.size) = some c'.size) (hc : c.size = c'.size) (h1 : c'.all (·.oneCell') = true)
    (h : wpList P ops Q rest (a.put op.dst undef) (w.alloc (.cells c' ty))) : wpList P ops Q (op :: rest) a (w.alloc (.cells c ty)) :=
  wpList_plain hgd fun _ hK => by
    unfold Oper.wp execOp
    simp only [ho, hx, hy, Instr.storeAt, Instr.sureAddr, Sem.run_bind, Sem.run_pure, Result.andThen_ok, run_storeVar_new w ty c c' hi hc h1]
    exact hK _ _ h
theorem op24_all (o : OpD24) (a b : Option Addr) (m n p q : Nat) : (op24Cells o (.slice a m n) (.slice b p q)).toArray.all (·.oneCell') = true :=
  all_oneCell_toArray fun v hv => by
    simp [op24Cells] at hv
    rcases hv with rfl | rfl | rfl | rfl | rfl | rfl | rfl | rfl | rfl | rfl | rfl | rfl | rfl | rfl | rfl | rfl | rfl | rfl | rfl | rfl | rfl | rfl | rfl | rfl | rfl <;> rfl
def confP (N R : Int) : ConfD := ⟨N, 3, 2, 8, 40, 3, 6, 200, R⟩
theorem cliK_new2 {N R id : Int} (h : 3 ≤ N ∧ N ≤ 5) (h2 : 1 ≤ R ∧ R ≤ 6) : CliK 0 (cliNew (confP N R) id) := by
  have hz : (⟨#[]⟩ : ByteArray).size ≤ 1000000 := by show (0 : Nat) ≤ _; decide
  refine ⟨?_, ?_, ?_, ?_, ?_, ?_, ?_, ⟨I64_0, I64_0, I64_0, I64_0, I64_0, I64_0, hz, hz⟩, by show (0 : Nat) ≤ _; decide⟩
  · show 3 ≤ N ∧ N ≤ 7; omega
  · show 1 ≤ R ∧ R ≤ 1000000; omega
  · show (0 : Int) ≤ 0 ∧ (0 : Int) ≤ R; omega
  · show (1 : Int) ≤ 1 ∧ (1 : Int) ≤ N; omega
  · show (0 : Int) ≤ 0 ∧ (0 : Int) ≤ _; decide
  · show (0 : Int) ≤ 0 ∧ (0 : Int) ≤ 0; decide
  · show (0 : Int) ≤ 0 ∧ (0 : Int) ≤ 0; decide

set_option maxRecDepth 100000 in
set_option maxHeartbeats 32000000 in
theorem plays24_any (nodes retry id : Int) (a : Option Addr) (ac : Nat) (l : List OpD24) (w : World) (hT : Tabs w) (hE : Errs w) (wn : (Lit.int .i64 nodes).wf = true) (wr' : (Lit.int .i64 retry).wf = true) (wi : (Lit.int .i64 id).wf = true) (hl : ListAt op24L w (fun b => b < w.heap.size) (.slice a l.length ac) l) (hz : ∀ m ∈ l, Op24Z m) :
    Calls Tryz.prog 4 #[.int .i64 nodes, .int .i64 retry, .int .i64 id, .slice a l.length ac] w fun e w' => e = .returned (.bool true) ∧ Keeps [] w w' := by
  have HT := hid hT
  have HE := hid hE
  have HL := hid hl
  have HZ := hid hz
  have HAW := hid (fun wx (k : Keeps [] w wx) => awake24_any wx (hT.k k) (hE.k k))
  have hp := placeOf_bd retry 6 (by decide)
  have hq := placeOf_bd nodes 3 (by decide)
  have HCF := hid (conf24_any nodes retry w wn wr')
  clear hT hE hl hz wn wr'
  obtain ⟨R, hR⟩ : ∃ R : Int, R = 1 + placeOf retry 6 := ⟨_, rfl⟩
  obtain ⟨N, hN⟩ : ∃ N : Int, N = 3 + placeOf nodes 3 := ⟨_, rfl⟩
  have hR1 : 1 ≤ R ∧ R ≤ 6 := by omega
  have hN1 : 3 ≤ N ∧ N ≤ 5 := by omega
  have hcf : conf24D nodes retry = ⟨N, 3, 2, 8, 40, 3, 6, 200, R⟩ := by unfold conf24D; rw [hR, hN]
  rw [hcf] at HCF
  have HN1 := hid hN1
  have HR1 := hid hR1
  clear hp hq hR hN hR1 hN1 hcf
  by_cases hid3 : id < 101 ∨ 103 < id
  · have HNO := hid (fun w1 => news24_no ⟨N, 3, 2, 8, 40, 3, 6, 200, R⟩ id w1 wi ⟨HN1.out.1, by have := HN1.out; show N ≤ 7; omega⟩ HR1.out.1 rfl hid3)
    clear hid3 wi
    go_enter Tryz.func4, Tryz.ntmps4
    go_wp2_with fail
    refine HCF.out.mono ?_
    rintro e w1 ⟨rfl, hk⟩
    have K1 := hid hk
    clear hk
    simp only [confVal]
    go_wp2_with fail
    refine (HNO.out _).1.mono ?_
    rintro e w2 ⟨rfl, hk⟩
    have hk1 := (Keeps.refl [] w1).alloc (.cells #[.int .i64 N, .int .i64 3, .int .i64 2, .int .i64 8, .int .i64 40, .int .i64 3, .int .i64 6, .int .i64 200, .int .i64 R] 24)
    have hf := (hk.block w1.heap.size (by simp) (by simp)).trans (heap_alloc_new w1 _)
    have K2 : Hid (Keeps [] w w2) := (K1.out.trans hk1 (fun _ _ h => h)).trans hk (fun _ _ h => h)
    have f0 := cell_of_block hf 0
    have f1 := cell_of_block hf 1
    have f2 := cell_of_block hf 2
    have f3 := cell_of_block hf 3
    have f4 := cell_of_block hf 4
    have f5 := cell_of_block hf 5
    have f6 := cell_of_block hf 6
    have f7 := cell_of_block hf 7
    have f8 := cell_of_block hf 8
    clear hk hk1 hf
    simp only [List.getElem?_toArray, List.getElem?_cons_zero, List.getElem?_cons_succ] at f0 f1 f2 f3 f4 f5 f6 f7 f8
    go_wp2_with fail
    refine (HNO.out _).2.mono ?_
    rintro e w3 ⟨rfl, hk⟩
    have K3 : Hid (Keeps [] w w3) := K2.out.trans hk (fun _ _ h => h)
    clear hk f0 f1 f2 f3 f4 f5 f6 f7 f8
    go_wp2_with fail
    refine (HAW.out _ K3.out).mono ?_
    rintro e w4 ⟨rfl, hk⟩
    have K4 : Hid (Keeps [] w w4) := K3.out.trans hk (fun _ _ h => h)
    clear hk
    go_wp2_with fail
    go_ret
    exact ⟨rfl, K4.out⟩
  · have hi1 : 101 ≤ id ∧ id ≤ 103 := by omega
    have HI := hid hi1
    have HNEW := hid (fun (Q : Nat → Prop) (w1 : World) (hQ : ¬ Q (w1.heap.size + 1)) => clNew_yes ⟨N, 3, 2, 8, 40, 3, 6, 200, R⟩ id Q w1 ⟨hi1.1, by have := hi1.2; show id - 100 ≤ 3; omega, HN1.out.1, by have := HN1.out; show N ≤ 7; omega, HR1.out.1⟩ (by omega) hQ)
    have HNEW2 := hid (fun (Q : Nat → Prop) (w1 : World) (hQ : ¬ Q (w1.heap.size + 1)) => r24New_yes ⟨N, 3, 2, 8, 40, 3, 6, 200, R⟩ id Q w1 ⟨hi1.1, by have := hi1.2; show id - 100 ≤ 3; omega, HN1.out.1, by have := HN1.out; show N ≤ 7; omega, HR1.out.1⟩ (by omega) hQ)
    clear hid3 wi hi1
    go_enter Tryz.func4, Tryz.ntmps4
    go_wp2_with fail
    refine HCF.out.mono ?_
    rintro e w1 ⟨rfl, hk⟩
    have K1 := hid hk
    clear hk
    simp only [confVal]
    go_wp2_with fail
    obtain ⟨wA, hwA⟩ : ∃ wA, w1.alloc (.cells #[.int .i64 N, .int .i64 3, .int .i64 2, .int .i64 8, .int .i64 40, .int .i64 3, .int .i64 6, .int .i64 200, .int .i64 R] 24) = wA := ⟨_, rfl⟩
    have KA : Hid (Keeps [] w wA) := K1.out.trans (by rw [← hwA]; exact Keeps.K) (fun _ _ h => h)
    have HF : Hid (wA.heap[w1.heap.size]? = some (.cells #[.int .i64 N, .int .i64 3, .int .i64 2, .int .i64 8, .int .i64 40, .int .i64 3, .int .i64 6, .int .i64 200, .int .i64 R] 24 (0, 0))) := by rw [← hwA]; exact heap_alloc_new _ _
    rw [hwA]
    clear hwA
    obtain ⟨n, hnn⟩ : ∃ n, wA.heap.size + 1 = n := ⟨_, rfl⟩
    refine (HNEW.out (fun _ => False) wA (by simp)).mono ?_
    rw [hnn]
    rintro e w2 ⟨rfl, h2, hk⟩
    have K2 : Hid (Keeps [] w w2) := KA.out.trans hk (fun _ _ h => h)
    have HR2 := hid h2.row
    have hf2 := (hk.block w1.heap.size (Array.getElem?_eq_some_iff.1 HF.out).1 (by simp)).trans HF.out
    have f0 := cell_of_block hf2 0
    have f1 := cell_of_block hf2 1
    have f2 := cell_of_block hf2 2
    have f3 := cell_of_block hf2 3
    have f4 := cell_of_block hf2 4
    have f5 := cell_of_block hf2 5
    have f6 := cell_of_block hf2 6
    have f7 := cell_of_block hf2 7
    have f8 := cell_of_block hf2 8
    have hwn : Hid (w.heap.size ≤ n) := by have := KA.out.size; show _ ≤ _; omega
    simp only [List.getElem?_toArray, List.getElem?_cons_zero, List.getElem?_cons_succ] at f0 f1 f2 f3 f4 f5 f6 f7 f8
    clear hk h2 hf2 hnn HF KA K1
    go_wp2_with fail
    obtain ⟨m, hmm⟩ : ∃ m, w2.heap.size + 1 = m := ⟨_, rfl⟩
    refine (HNEW2.out (fun x => x ≠ n ∧ x ≠ m) w2 (by rw [hmm]; simp)).mono ?_
    rw [hmm]
    rintro e w3 ⟨rfl, h3, hk⟩
    have K3 : Hid (Keeps [] w w3) := K2.out.trans hk (fun _ _ h => h)
    have hnl := (Array.getElem?_eq_some_iff.1 HR2.out).1
    have HNM : Hid (n < m ∧ w.heap.size ≤ m) := by have := hwn.out; show _ ∧ _; omega
    have HDU : Hid (Duo24 w3 n m 0 (cliNew (confP N R) id) zeroC) :=
      ⟨⟨.slice none 0 0, .nilFunc, ⟨(hk.block n hnl (by simp)).trans HR2.out, BytesAt.nil _ _ _ _, rfl, .inl ⟨rfl, rfl⟩, fun h => h.1 rfl⟩⟩, ⟨_, h3⟩, rfl, cliK_new2 HN1.out HR1.out, fun h => absurd rfl h⟩
    clear hk h3 hmm hnl HR2 K2 f0 f1 f2 f3 f4 f5 f6 f7 f8
    go_wp2_with fail
    go_loopw [14] (fun i wr => ∃ k : Nat, i = .int .i64 (k : Int) ∧ (k : Int) ≤ 60 ∧ Hid (k ≤ l.length ∧ Keeps [] w wr ∧ ∃ c X, Duo24 wr n m k c X)) (fun i _ => 100 - (intOf i).toNat)
    case atStart => exact ⟨0, rfl, by decide, Nat.zero_le _, K3.out, _, _, HDU.out⟩
    case round =>
      obtain ⟨k, rfl, hk60, HW⟩ := hrel
      obtain ⟨hkl, hK, c, X, hD⟩ := HW.out
      have HK := hid hK
      have HD := hid hD
      have HKL := hid hkl
      clear HW hK hD hkl HDU
      have hk0 : (0 : Int) ≤ (k : Int) := Int.natCast_nonneg _
      by_cases hgo : k < l.length ∧ k < 60
      · obtain ⟨g1, g2⟩ := hgo
        have i1 : (k : Int) < (l.length : Int) := by omega
        have i2 : (k : Int) < 60 := by omega
        have hw1 : IntKind.i64.wrap ((k : Int) + 1) = (k : Int) + 1 := by rw [IntKind.wrap_i64]; omega
        obtain ⟨o, ho⟩ : ∃ o, l[k]? = some o := ⟨l[k], List.getElem?_eq_getElem g1⟩
        obtain ⟨g, off, cg, ha, hcg, hcm, hgl, hgP⟩ := (HL.out.k HK.out).addr (fun hn => by rw [hn] at g1; simp at g1)
        simp only [Value.slice.injEq] at ha
        obtain ⟨rfl, -, rfl⟩ := ha
        obtain ⟨cs, ⟨ev, dv, rfl, he, hd⟩, hcs⟩ := (HL.out.k HK.out).get ho
        have HOZ := hid (HZ.out o (List.mem_of_getElem? ho))
        obtain ⟨ea, ec, rfl⟩ := he.form
        obtain ⟨da, dc, rfl⟩ := hd.form
        have HCS : Hid (wr.rangeAt g (off + k * 25) (op24Cells o (.slice ea o.m.entries.length ec) (.slice da o.m.data.length dc))) := fun j v hv => hcs j v hv
        have HEN := hid he
        have HDA := hid hd
        clear hcs he hd g1 g2 hcg hcm hgl hgP ho
        go_upto_region 12 with (first | refine wpList_load_mid rfl 42 _ rfl g (off + k * 25) rfl _ _ HCS.out Tryz.underlying42 rfl (by kernel_rfl) ?_ | (refine wpList_store_new2 (by rfl) 42 (.tmp 15) (.tmp 57) (by rfl) _ (op24Cells o (.slice ea o.m.entries.length ec) (.slice da o.m.data.length dc)).toArray (by rfl) (by rfl) (by kernel_rfl) (by rfl) (by exact op24_all _ _ _ _ _ _ _) ?_))
        obtain ⟨wX, hwX⟩ : ∃ wX, wr.alloc (.cells (op24Cells o (.slice ea o.m.entries.length ec) (.slice da o.m.data.length dc)).toArray 42) = wX := ⟨_, rfl⟩
        rw [hwX]
        have XB : wX.heap[wr.heap.size]? = some (.cells (op24Cells o (.slice ea o.m.entries.length ec) (.slice da o.m.data.length dc)).toArray 42 (0, 0)) := by rw [← hwX]; exact heap_alloc_new _ _
        have HX : Hid (wX.rangeAt wr.heap.size 0 (op24Cells o (.slice ea o.m.entries.length ec) (.slice da o.m.data.length dc))) := fun j v hv => by rw [Nat.zero_add, cell_of_block XB j]; simpa using hv
        have x5 : wX.cell? ⟨wr.heap.size, 5, none⟩ = some (.string o.c.field) := HX.out 5 _ rfl
        have x9 : wX.cell? ⟨wr.heap.size, 9, none⟩ = some (.string o.c.value.s) := HX.out 9 _ rfl
        have x18 : wX.cell? ⟨wr.heap.size, 18, none⟩ = some (.slice ea o.m.entries.length ec) := HX.out 18 _ rfl
        have x19 : wX.cell? ⟨wr.heap.size, 19, none⟩ = some (.slice da o.m.data.length dc) := HX.out 19 _ rfl
        have x24 : wX.cell? ⟨wr.heap.size, 24, none⟩ = some (.string o.r.value.s) := HX.out 24 _ rfl
        have KX : Hid (Keeps [] wr wX) := by rw [← hwX]; show Keeps _ _ _; exact Keeps.K
        clear XB hwX
        by_cases z1 : o.c.field.size ≤ 200
        · have j1 : (o.c.field.size : Int) ≤ 200 := by omega
          by_cases z2 : o.c.value.s.size ≤ 600
          · have j2 : (o.c.value.s.size : Int) ≤ 600 := by omega
            by_cases z3 : o.m.data.length ≤ 500
            · have j3 : (o.m.data.length : Int) ≤ 500 := by omega
              by_cases z4 : o.m.entries.length ≤ 5
              · have j4 : (o.m.entries.length : Int) ≤ 5 := by omega
                by_cases z5 : o.r.value.s.size ≤ 600
                · have j5 : (o.r.value.s.size : Int) ≤ 600 := by omega
                  have HZ2 := hid z2
                  have HZ3 := hid z3
                  have HZ4 := hid z4
                  have HZ5 := hid z5
                  clear z1 z2 z3 z4 z5
                  have KWX : Hid (Keeps [] w wX) := HK.out.trans KX.out (fun _ _ h => h)
                  have HTA : Hid (∀ wx, Keeps [n, m] wX wx → Keeps [] w wx) := fun wx kk => KWX.out.trans kk (fun x hx hm => by simp at hm; have := hwn.out; have := HNM.out; omega)
                  have HDO := hid (do24_any wX n m (k : Int) c X o ea da ec dc (fun wx kk => HT.out.k (HTA.out wx kk)) (fun wx kk => HE.out.k (HTA.out wx kk)) (by have := HNM.out; omega) (HD.out.k0 KX.out) hk0 (by omega) HOZ.out
                    ((HEN.out.k KX.out).mono (fun x _ hx => by have := hwn.out; have := HNM.out; exact ⟨by omega, by omega⟩)) ((HDA.out.k KX.out).mono (fun x _ hx => by have := hwn.out; have := HNM.out; exact ⟨by omega, by omega⟩)) HZ2.out HZ3.out HZ4.out HZ5.out)
                  go_wp2_with (refine wpList_load_mid rfl 42 _ rfl wr.heap.size 0 rfl _ _ HX.out Tryz.underlying42 rfl (by kernel_rfl) ?_)
                  refine HDO.out.mono ?_
                  rintro e w4 ⟨rfl, hk4, c4, X4, hd4, hcf4, hid4⟩
                  have K4 := hid (HTA.out w4 hk4)
                  have D4 := hid hd4
                  obtain ⟨dv4, fv4, h4⟩ := hd4.one
                  obtain ⟨dw4, h5⟩ := hd4.two
                  have HSM := hid (same24_is w4 n m _ _ c4 X4 dv4 fv4 dw4 h4 h5)
                  clear hk4 hd4 h4 h5 x5 x9 x18 x19 x24 HDO
                  go_wp2_with fail
                  refine HSM.out.mono ?_
                  rintro e w5 ⟨rfl, hk5⟩
                  have HFIN : Hid (k + 1 ≤ l.length ∧ Keeps [] w w5 ∧ ∃ c X, Duo24 w5 n m ((k + 1 : Nat) : Int) c X) :=
                    ⟨by omega, K4.out.trans hk5 (fun _ _ h => h), c4, X4, by rw [show ((k + 1 : Nat) : Int) = (k : Int) + 1 by omega]; exact D4.out.k0 hk5⟩
                  have hk61 : ((k + 1 : Nat) : Int) ≤ 60 := by omega
                  clear hk5
                  go_wp2_with fail
                  go_roundw
                  case rel => exact ⟨k + 1, rfl, hk61, HFIN.out⟩
                  case measure => simp [intOf]; omega
                · have j5 : 600 < (o.r.value.s.size : Int) := by omega
                  go_wp2_with fail
                  refine (HAW.out _ (HK.out.trans KX.out (fun _ _ h => h))).mono ?_
                  rintro e w6 ⟨rfl, hk⟩
                  have K6 : Hid (Keeps [] w w6) := (HK.out.trans KX.out (fun _ _ h => h)).trans hk (fun _ _ h => h)
                  clear hk
                  go_wp2_with fail
                  go_ret
                  exact ⟨rfl, K6.out⟩
              · have j4 : 5 < (o.m.entries.length : Int) := by omega
                go_wp2_with fail
                refine (HAW.out _ (HK.out.trans KX.out (fun _ _ h => h))).mono ?_
                rintro e w6 ⟨rfl, hk⟩
                have K6 : Hid (Keeps [] w w6) := (HK.out.trans KX.out (fun _ _ h => h)).trans hk (fun _ _ h => h)
                clear hk
                go_wp2_with fail
                go_ret
                exact ⟨rfl, K6.out⟩
            · have j3 : 500 < (o.m.data.length : Int) := by omega
              go_wp2_with fail
              refine (HAW.out _ (HK.out.trans KX.out (fun _ _ h => h))).mono ?_
              rintro e w6 ⟨rfl, hk⟩
              have K6 : Hid (Keeps [] w w6) := (HK.out.trans KX.out (fun _ _ h => h)).trans hk (fun _ _ h => h)
              clear hk
              go_wp2_with fail
              go_ret
              exact ⟨rfl, K6.out⟩
          · have j2 : 600 < (o.c.value.s.size : Int) := by omega
            go_wp2_with fail
            refine (HAW.out _ (HK.out.trans KX.out (fun _ _ h => h))).mono ?_
            rintro e w6 ⟨rfl, hk⟩
            have K6 : Hid (Keeps [] w w6) := (HK.out.trans KX.out (fun _ _ h => h)).trans hk (fun _ _ h => h)
            clear hk
            go_wp2_with fail
            go_ret
            exact ⟨rfl, K6.out⟩
        · have j1 : 200 < (o.c.field.size : Int) := by omega
          go_wp2_with fail
          refine (HAW.out _ (HK.out.trans KX.out (fun _ _ h => h))).mono ?_
          rintro e w6 ⟨rfl, hk⟩
          have K6 : Hid (Keeps [] w w6) := (HK.out.trans KX.out (fun _ _ h => h)).trans hk (fun _ _ h => h)
          clear hk
          go_wp2_with fail
          go_ret
          exact ⟨rfl, K6.out⟩
      · have HGO : Hid ((k : Int) < (l.length : Int) → (60 : Int) ≤ (k : Int)) := fun h => by omega
        obtain ⟨dv4, fv4, h4⟩ := HD.out.one
        obtain ⟨dw4, h5⟩ := HD.out.two
        have HSM := hid (same24_is wr n m _ _ c X dv4 fv4 dw4 h4 h5)
        clear h4 h5
        by_cases h1 : (k : Int) < (l.length : Int)
        · have h2 : (60 : Int) ≤ (k : Int) := HGO.out h1
          go_wp2_with fail
          refine HSM.out.mono ?_
          rintro e w5 ⟨rfl, hk5⟩
          have K5 : Hid (Keeps [] w w5) := HK.out.trans hk5 (fun _ _ h => h)
          clear hk5
          go_wp2_with fail
          refine (HAW.out _ K5.out).mono ?_
          rintro e w6 ⟨rfl, hk⟩
          have K6 : Hid (Keeps [] w w6) := K5.out.trans hk (fun _ _ h => h)
          clear hk
          go_wp2_with fail
          go_ret
          exact ⟨rfl, K6.out⟩
        · have h2 : (l.length : Int) ≤ (k : Int) := by omega
          go_wp2_with fail
          refine HSM.out.mono ?_
          rintro e w5 ⟨rfl, hk5⟩
          have K5 : Hid (Keeps [] w w5) := HK.out.trans hk5 (fun _ _ h => h)
          clear hk5
          go_wp2_with fail
          refine (HAW.out _ K5.out).mono ?_
          rintro e w6 ⟨rfl, hk⟩
          have K6 : Hid (Keeps [] w w6) := K5.out.trans hk (fun _ _ h => h)
          clear hk
          go_wp2_with fail
          go_ret
          exact ⟨rfl, K6.out⟩

end Go.Proofs.YtnjdepojmnniaaaGreatDoor
