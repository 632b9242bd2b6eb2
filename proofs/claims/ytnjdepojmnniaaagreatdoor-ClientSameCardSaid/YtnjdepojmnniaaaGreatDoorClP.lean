/- ClientSame, walked. -/
import Derived.Test.YtnjdepojmnniaaaGreatDoorQ36
import Derived.Test.YtnjdepojmnniaaaGreatDoorQ38
import Derived.Deep.MidRow
import Derived.Deep.WholeRow
import Derived.Deep.CutRange
import Derived.Deep.CutBlock

set_option linter.unusedSimpArgs false
set_option linter.unusedVariables false
namespace Go.Proofs.YtnjdepojmnniaaaGreatDoor
open Go Go.RowKit

/-- A whole row goes into the block that was made last: the operation, at the list of a plain region's operations. -/
theorem wpList_store_new {P : Program} {ops : Array Oper} {rest : List Oper} {op : Oper} {a : Act} {w : World} {Q : Exit → Act → World → Prop} (hgd : op.guard = none) (ty : TypeId) (x y : Operand) (ho : op.op = .store ty x y)
    (c c' : Array Value) (hx : a.eval x = .pointer (some ⟨w.heap.size, 0, none⟩)) (hy : a.eval y = .agg c') (hi : (P.info? ty).map (·.size) = some c'.size) (hc : c.size = c'.size) (h1 : c'.all (·.oneCell') = true)
    (h : wpList P ops Q rest (a.put op.dst undef) (w.alloc (.cells c' ty))) : wpList P ops Q (op :: rest) a (w.alloc (.cells c ty)) :=
  wpList_plain hgd fun _ hK => by
    unfold Oper.wp execOp
    simp only [ho, hx, hy, Instr.storeAt, Instr.sureAddr, Sem.run_bind, Sem.run_pure, Result.andThen_ok, run_storeVar_new w ty c c' hi hc h1]
    exact hK _ _ h
theorem op24_one (o : OpD24) (a b : Option Addr) (m n p q : Nat) : (op24Cells o (.slice a m n) (.slice b p q)).toArray.all (·.oneCell') = true :=
  all_oneCell_toArray fun v hv => by
    simp [op24Cells] at hv
    rcases hv with rfl | rfl | rfl | rfl | rfl | rfl | rfl | rfl | rfl | rfl | rfl | rfl | rfl | rfl | rfl | rfl | rfl | rfl | rfl | rfl | rfl | rfl | rfl | rfl | rfl <;> rfl
theorem range_part {w : World} {b o : Nat} {pre cs post : List Value} (h : w.rangeAt b o (pre ++ cs ++ post)) : w.rangeAt b (o + pre.length) cs := fun j v hv => by
  have hj : j < cs.length := (List.getElem?_eq_some_iff.1 hv).1
  have := h (pre.length + j) v (by rw [List.append_assoc, List.getElem?_append_right (by omega), List.getElem?_append_left (by omega)]; simpa using hv)
  rw [Nat.add_assoc]; exact this
def confS (N R : Int) : ConfD := ⟨N, 3, 2, 8, 40, 3, 6, 200, R⟩
theorem tA400_is : Tryz.zeroCells30 = ((List.replicate 400 (⟨#[]⟩ : ByteArray)).map Value.string).toArray := by kernel_rfl
theorem cliK_new {N R : Int} (h : 3 ≤ N ∧ N ≤ 5) (h2 : 1 ≤ R ∧ R ≤ 6) : CliK 0 (cliNew (confS N R) 101) := by
  have hz : (⟨#[]⟩ : ByteArray).size ≤ 1000000 := by show (0 : Nat) ≤ _; decide
  refine ⟨?_, ?_, ?_, ?_, ?_, ?_, ?_, ⟨I64_0, I64_0, I64_0, I64_0, I64_0, I64_0, hz, hz⟩, by show (0 : Nat) ≤ _; decide⟩
  · show 3 ≤ N ∧ N ≤ 7; omega
  · show 1 ≤ R ∧ R ≤ 1000000; omega
  · show (0 : Int) ≤ 0 ∧ (0 : Int) ≤ R; omega
  · show (1 : Int) ≤ 1 ∧ (1 : Int) ≤ N; omega
  · show (0 : Int) ≤ 0 ∧ (0 : Int) ≤ _; decide
  · show (0 : Int) ≤ 0 ∧ (0 : Int) ≤ 0; decide
  · show (0 : Int) ≤ 0 ∧ (0 : Int) ≤ 0; decide
/-- What was told with each number, as the law's array holds it. -/
structure DataOk (c : CliD) (D : List ByteArray) : Prop where
  len : D.length = 400
  none : ∀ j : Nat, c.request < j → j < 400 → D[j]? = some ⟨#[]⟩
  last : ∀ j : Nat, c.request = j → j < 400 → D[j]? = some ⟨#[]⟩ ∨ D[j]? = some (str c.last.data)
/-- Between two calls of the script. -/
structure SameAt (w wr : World) (N R : Int) (f n b : Nat) (k : Int) (c : CliD) (D : List ByteArray) : Prop where
  keep : Keeps [] w wr
  at_ : ∃ dv fv, CliAt wr n (fun x => x ≠ n ∧ x ≠ b) c dv fv
  ok : CliK k c
  last : LastOk c
  conf : c.conf = confS N R
  id : c.id = 101
  row : wr.heap[f]? = some (.cells #[.int .i64 N, .int .i64 3, .int .i64 2, .int .i64 8, .int .i64 40, .int .i64 3, .int .i64 6, .int .i64 200, .int .i64 R] 24 (0, 0))
  arr : wr.heap[b]? = some (.cells (D.map Value.string).toArray 30 (0, 0))
  data : DataOk c D
theorem DataOk.step {k : Int} {c c' : CliD} {l : List MsgD} {D : List ByteArray} (h : DataOk c D) (hs : StepOk k c c' l) : DataOk c' D := by
  rcases hs.asks with ⟨h1, h2⟩ | h1
  · exact ⟨h.len, by rw [h1]; exact h.none, by rw [h1, h2]; exact h.last⟩
  · exact ⟨h.len, fun j h2 => h.none j (by omega), fun j h2 h3 => .inl (h.none j (by omega) h3)⟩
theorem DataOk.put {c : CliD} {D : List ByteArray} (h : DataOk c D) {q : Nat} (hq : c.request = q) (hl : q < 400) : DataOk c (D.set q (str c.last.data)) := by
  refine ⟨by simp [h.len], fun j h1 h2 => ?_, fun j h1 h2 => .inr ?_⟩
  · rw [List.getElem?_set_ne (by omega)]
    exact h.none j h1 h2
  · rw [show q = j by omega, List.getElem?_set_self (by rw [h.len]; exact h2)]

theorem repl_get {D : List ByteArray} (h : D = List.replicate 400 ⟨#[]⟩) {j : Nat} (hj : j < 400) : D[j]? = some ⟨#[]⟩ := by rw [h, List.getElem?_replicate, if_pos hj]
theorem zero400 (w : World) : ∃ D0 : List ByteArray, (w.alloc (.cells Tryz.zeroCells30 30)).heap[w.heap.size]? = some (.cells (D0.map Value.string).toArray 30 (0, 0)) ∧ D0.length = 400 ∧ ∀ j, j < 400 → D0[j]? = some ⟨#[]⟩ := by
  obtain ⟨D, hD⟩ : ∃ D, D = List.replicate 400 (⟨#[]⟩ : ByteArray) := ⟨_, rfl⟩
  have e := tA400_is
  rw [← hD] at e
  exact ⟨D, by rw [e]; exact heap_alloc_new _ _, by rw [hD, List.length_replicate], fun j hj => repl_get hD hj⟩

set_option maxRecDepth 100000 in
set_option maxHeartbeats 32000000 in
theorem same24_any (nodes retry : Int) (a : Option Addr) (ac : Nat) (l : List OpD24) (w : World) (hT : Tabs w) (hE : Errs w) (wn : (Lit.int .i64 nodes).wf = true) (wr' : (Lit.int .i64 retry).wf = true) (hl : ListAt op24L w (fun b => b < w.heap.size) (.slice a l.length ac) l) (hz : ∀ m ∈ l, Op24Z m) :
    Calls Tryz.prog 3 #[.int .i64 nodes, .int .i64 retry, .slice a l.length ac] w fun e w' => e = .returned (.bool true) ∧ Keeps [] w w' := by
  have HT := hid hT
  have HE := hid hE
  have HL := hid hl
  have HZ := hid hz
  have HAW := hid (fun wx (k : Keeps [] w wx) => awake24_any wx (hT.k k) (hE.k k))
  have hp := placeOf_bd retry 6 (by decide)
  have hq := placeOf_bd nodes 3 (by decide)
  have HCF := hid (conf24_any nodes retry w wn wr')
  clear hT hE hl hz wn wr'
  obtain ⟨R, hR⟩ : ∃ R : Int, R = 1 + placeOf retry 6 := ⟨_, rfl⟩
  obtain ⟨N, hN⟩ : ∃ N : Int, N = 3 + placeOf nodes 3 := ⟨_, rfl⟩
  have hR1 : 1 ≤ R ∧ R ≤ 6 := by omega
  have hN1 : 3 ≤ N ∧ N ≤ 5 := by omega
  have hcf : conf24D nodes retry = ⟨N, 3, 2, 8, 40, 3, 6, 200, R⟩ := by unfold conf24D; rw [hR, hN]
  rw [hcf] at HCF
  have HNEW := hid (fun (Q : Nat → Prop) (w1 : World) (hQ : ¬ Q (w1.heap.size + 1)) => clNew_yes ⟨N, 3, 2, 8, 40, 3, 6, 200, R⟩ 101 Q w1 ⟨by decide, by show (101 : Int) - 100 ≤ 3; decide, hN1.1, by show N ≤ 7; omega, hR1.1⟩ (by decide) hQ)
  have HN1 := hid hN1
  have HR1 := hid hR1
  clear hp hq hR hN hR1 hN1 hcf
  go_enter Tryz.func3, Tryz.ntmps3
  go_wp2_with fail
  refine HCF.out.mono ?_
  rintro e w1 ⟨rfl, hk⟩
  have K1 := hid hk
  clear hk
  simp only [confVal]
  go_wp2_with fail
  obtain ⟨wA, hwA⟩ : ∃ wA, w1.alloc (.cells #[.int .i64 N, .int .i64 3, .int .i64 2, .int .i64 8, .int .i64 40, .int .i64 3, .int .i64 6, .int .i64 200, .int .i64 R] 24) = wA := ⟨_, rfl⟩
  have KA : Hid (Keeps [] w wA) := K1.out.trans (by rw [← hwA]; exact Keeps.K) (fun _ _ h => h)
  have HF : Hid (wA.heap[w1.heap.size]? = some (.cells #[.int .i64 N, .int .i64 3, .int .i64 2, .int .i64 8, .int .i64 40, .int .i64 3, .int .i64 6, .int .i64 200, .int .i64 R] 24 (0, 0))) := by rw [← hwA]; exact heap_alloc_new _ _
  rw [hwA]
  obtain ⟨n, hnn⟩ : ∃ n, wA.heap.size + 1 = n := ⟨_, rfl⟩
  refine (HNEW.out (fun b => wA.heap.size + 1 + 1 ≤ b) wA (by omega)).mono ?_
  rw [hnn]
  rintro e w2 ⟨rfl, h2, hk⟩
  have K2 : Hid (Keeps [] w w2) := KA.out.trans hk (fun _ _ h => h)
  have hn := h2.lt
  have H2 := hid h2
  have hwn : Hid (w.heap.size ≤ n) := by have := KA.out.size; show _ ≤ _; omega
  have HF2 := hid ((hk.block _ (Array.getElem?_eq_some_iff.1 HF.out).1 (by simp)).trans HF.out)
  obtain ⟨f, hf⟩ : ∃ f, w1.heap.size = f := ⟨_, rfl⟩
  rw [hf] at HF2 ⊢
  have hfn : Hid (w.heap.size ≤ f ∧ f < n) := by have := K1.out.size; have := (Array.getElem?_eq_some_iff.1 HF.out).1; show _ ∧ _; omega
  clear hk h2 hnn hwA K1 KA HF hf
  go_wp2_with fail
  obtain ⟨b, hb⟩ : ∃ b, w2.heap.size = b := ⟨_, rfl⟩
  obtain ⟨wB, hwB⟩ : ∃ wB, w2.alloc (.cells Tryz.zeroCells30 30) = wB := ⟨_, rfl⟩
  have KB : Hid (Keeps [] w2 wB) := by rw [← hwB]; show Keeps _ _ _; exact Keeps.K
  have HBB : Hid (n < b ∧ w.heap.size ≤ b) := by have := K2.out.size; show _ ∧ _; omega
  obtain ⟨D0, d1, d2, d3⟩ := zero400 w2
  rw [hwB, hb] at d1
  have HI0 : Hid (SameAt w wB N R f n b 0 (cliNew (confS N R) 101) D0) := by
    refine ⟨K2.out.trans KB.out (fun _ _ h => h), ⟨.slice none 0 0, .nilFunc, ?_⟩, cliK_new HN1.out HR1.out, fun h => absurd rfl h, rfl, rfl, ?_, d1, ⟨d2, fun j _ hj => d3 j hj, fun j _ hj => .inl (d3 j hj)⟩⟩
    · exact ⟨(KB.out.block _ hn (by simp)).trans H2.out.row, ⟨H2.out.data.1.k0 KB.out, fun hh => absurd rfl hh⟩, rfl, .inl ⟨rfl, rfl⟩, fun h => h.1 rfl⟩
    · exact (KB.out.block _ (Array.getElem?_eq_some_iff.1 HF2.out).1 (by simp)).trans HF2.out
  rw [hb, hwB]
  clear d1 d2 d3 hb hwB KB H2 K2 HF2 hn
  go_loopw [11] (fun i wr => ∃ k : Nat, i = .int .i64 (k : Int) ∧ (k : Int) ≤ 60 ∧ Hid (k ≤ l.length ∧ ∃ c D, SameAt w wr N R f n b k c D)) (fun i _ => 100 - (intOf i).toNat)
  case atStart => exact ⟨0, rfl, by decide, Nat.zero_le _, _, _, HI0.out⟩
  case round =>
    obtain ⟨k, rfl, hk60, HW⟩ := hrel
    obtain ⟨hkl, c, D, hS⟩ := HW.out
    have HS := hid hS
    have HK := hid hS.keep
    have HKL := hid hkl
    clear HW hS HI0 hkl
    have hk0 : (0 : Int) ≤ (k : Int) := Int.natCast_nonneg _
    by_cases hgo : k < l.length ∧ k < 60
    · obtain ⟨g1, g2⟩ := hgo
      have i1 : (k : Int) < (l.length : Int) := by omega
      have i2 : (k : Int) < 60 := by omega
      have hw1 : IntKind.i64.wrap ((k : Int) + 1) = (k : Int) + 1 := by rw [IntKind.wrap_i64]; omega
      obtain ⟨o, ho⟩ : ∃ o, l[k]? = some o := ⟨l[k], List.getElem?_eq_getElem g1⟩
      obtain ⟨g, off, cg, ha, hcg, hcm, hgl, hgP⟩ := (HL.out.k HK.out).addr (fun hn => by rw [hn] at g1; simp at g1)
      simp only [Value.slice.injEq] at ha
      obtain ⟨rfl, -, rfl⟩ := ha
      obtain ⟨cs, ⟨ev, dv, rfl, he, hd⟩, hcs⟩ := (HL.out.k HK.out).get ho
      have HOZ := hid (HZ.out o (List.mem_of_getElem? ho))
      obtain ⟨ea, ec, rfl⟩ := he.form
      obtain ⟨da, dc, rfl⟩ := hd.form
      have HCS : Hid (wr.rangeAt g (off + k * 25) (op24Cells o (.slice ea o.m.entries.length ec) (.slice da o.m.data.length dc))) := fun j v hv => hcs j v hv
      clear hcs he hd g1 g2 hcg hcm hgl hgP ho
      go_upto_region 10 with (first | refine wpList_load_mid rfl 42 _ rfl g (off + k * 25) rfl _ _ HCS.out Tryz.underlying42 rfl (by kernel_rfl) ?_ | (refine wpList_store_new (by rfl) 42 (.tmp 12) (.tmp 44) (by rfl) _ (op24Cells o (.slice ea o.m.entries.length ec) (.slice da o.m.data.length dc)).toArray (by rfl) (by rfl) (by kernel_rfl) (by rfl) (by exact op24_one _ _ _ _ _ _ _) ?_))
      obtain ⟨wX, hwX⟩ : ∃ wX, wr.alloc (.cells (op24Cells o (.slice ea o.m.entries.length ec) (.slice da o.m.data.length dc)).toArray 42) = wX := ⟨_, rfl⟩
      rw [hwX]
      have XB : wX.heap[wr.heap.size]? = some (.cells (op24Cells o (.slice ea o.m.entries.length ec) (.slice da o.m.data.length dc)).toArray 42 (0, 0)) := by rw [← hwX]; exact heap_alloc_new _ _
      have HX : Hid (wX.rangeAt wr.heap.size 0 (op24Cells o (.slice ea o.m.entries.length ec) (.slice da o.m.data.length dc))) := fun j v hv => by rw [Nat.zero_add, cell_of_block XB j]; simpa using hv
      have x0 : wX.cell? ⟨wr.heap.size, 0, none⟩ = some (.int .i64 o.kind) := HX.out 0 _ rfl
      have x5 : wX.cell? ⟨wr.heap.size, 5, none⟩ = some (.string o.c.field) := HX.out 5 _ rfl
      have x9 : wX.cell? ⟨wr.heap.size, 9, none⟩ = some (.string o.c.value.s) := HX.out 9 _ rfl
      have x24 : wX.cell? ⟨wr.heap.size, 24, none⟩ = some (.string o.r.value.s) := HX.out 24 _ rfl
      have KX : Hid (Keeps [] wr wX) := by rw [← hwX]; show Keeps _ _ _; exact Keeps.K
      have HRX : Hid (wr.heap.size < wX.heap.size) := (Array.getElem?_eq_some_iff.1 XB).1
      have HNW : Hid (n < wr.heap.size) := by
        obtain ⟨dv, fv, h⟩ := HS.out.at_
        exact h.lt
      clear XB hwX
      by_cases z1 : o.c.field.size ≤ 200
      · by_cases z2 : o.c.value.s.size ≤ 600
        · by_cases z3 : o.r.value.s.size ≤ 600
          · have j1 : (o.c.field.size : Int) ≤ 200 := by omega
            have j2 : (o.c.value.s.size : Int) ≤ 600 := by omega
            have j3 : (o.r.value.s.size : Int) ≤ 600 := by omega
            have HZ1 := hid z1
            have HZ2 := hid z2
            have HZ3 := hid z3
            clear z1 z2 z3
            go_wp2_with fail
            refine (place_is (placeOf o.kind 4) o.kind 4 _ (by decide) (by decide) HOZ.out.kind rfl).mono ?_
            rintro e w3 ⟨rfl, hw3⟩
            rw [hw3]
            clear hw3 w3
            have HCli : Hid (∃ dv fv, CliAt wX n (fun x => x ≠ n ∧ x ≠ b) c dv fv) := by
              obtain ⟨dv, fv, h⟩ := HS.out.at_
              exact ⟨dv, fv, h.k KX.out⟩
            have HZX : Hid (n < wX.heap.size ∧ b < wX.heap.size ∧ f < wX.heap.size ∧ w.heap.size ≤ wX.heap.size) := by
              obtain ⟨dv, fv, h⟩ := HS.out.at_
              have z0 := KX.out.size
              have z1 := h.lt
              have z2 := (Array.getElem?_eq_some_iff.1 HS.out.arr).1
              have z3 := (Array.getElem?_eq_some_iff.1 HS.out.row).1
              have z4 := HK.out.size
              exact ⟨by omega, by omega, by omega, by omega⟩
            have HQ : Hid (∀ y, wX.heap.size ≤ y → y ≠ n ∧ y ≠ b) := fun y hy => by have := HZX.out; omega
            have KW : Hid (Keeps [] w wX) := HK.out.trans KX.out (fun _ _ h => h)
            go_upto_block 2 with fail
            go_cut [13, 14] from 31 to 198 (fun lv _ wx => ∃ (c' : CliD) (l' : List MsgD) (a' : Option Addr) (q' : Nat), lv = .slice a' l'.length q' ∧ Hid (StepOk k c c' l' ∧ Keeps [n] wX wx ∧ (∃ dv fv, CliAt wx n (fun x => x ≠ n ∧ x ≠ b) c' dv fv) ∧ ListAt msgL wx (fun x => wX.heap.size ≤ x) (.slice a' l'.length q') l'))
            case first =>
              clear hw1 i1 i2 hk0
              have hp4 := placeOf_bd o.kind 4 (by decide)
              obtain ⟨p, hp⟩ : ∃ p, placeOf o.kind 4 = p := ⟨_, rfl⟩
              rw [hp] at hp4 ⊢
              clear hp x0 x5 x9 x24 j1 j2 j3
              rcases (show p = 0 ∨ p = 1 ∨ p = 2 ∨ p = 3 by omega) with rfl | rfl | rfl | rfl
              · have x2 : wX.cell? ⟨wr.heap.size, 2, none⟩ = some (.int .i64 o.c.kind) := HX.out 2 _ rfl
                have x3 : wX.cell? ⟨wr.heap.size, 3, none⟩ = some (.int .i64 o.c.session) := HX.out 3 _ rfl
                have x4 : wX.cell? ⟨wr.heap.size, 4, none⟩ = some (.int .i64 o.c.seq) := HX.out 4 _ rfl
                have x5 : wX.cell? ⟨wr.heap.size, 5, none⟩ = some (.string o.c.field) := HX.out 5 _ rfl
                have x6 : wX.cell? ⟨wr.heap.size, 6, none⟩ = some (.int .i64 o.c.version) := HX.out 6 _ rfl
                have x7 : wX.cell? ⟨wr.heap.size, 7, none⟩ = some (.int .i64 o.c.value.kind) := HX.out 7 _ rfl
                have x8 : wX.cell? ⟨wr.heap.size, 8, none⟩ = some (.int .i64 o.c.value.n) := HX.out 8 _ rfl
                have x9 : wX.cell? ⟨wr.heap.size, 9, none⟩ = some (.string o.c.value.s) := HX.out 9 _ rfl
                clear hp4
                obtain ⟨dv, fv, hc⟩ := HCli.out
                have HCC := hid hc
                clear hc
                have HS9 := hid (show (k : Int) ≤ 1000 by omega)
                go_wp2_with fail
                refine (clCall_any wX n _ c dv fv o.c (HT.out.k KW.out) (HE.out.k KW.out) HCC.out HS.out.ok.request.1 HS.out.ok.session.2 HS.out.ok.seq.1 HOZ.out.c (by have := HZ2.out; omega) HQ.out).mono ?_
                rintro e w4 ⟨v, rfl, a4, q4, dv4, fv4, rfl, h4, l4, hk⟩
                have R4 : Hid (StepOk k c (callD c o.c).1 (callD c o.c).2.1 ∧ Keeps [n] wX w4 ∧ (∃ dv fv, CliAt w4 n (fun x => x ≠ n ∧ x ≠ b) (callD c o.c).1 dv fv) ∧ ListAt msgL w4 (fun x => wX.heap.size ≤ x) (.slice a4 (callD c o.c).2.1.length q4) (callD c o.c).2.1) :=
                  ⟨call_step HS.out.ok HS.out.last HS9.out o.c HOZ.out.c, hk, ⟨_, _, h4⟩, l4⟩
                clear hk h4 l4 x2 x3 x4 x5 x6 x7 x8 x9
                go_wp2_with fail
                go_meet
                case rel => exact ⟨_, _, _, _, rfl, R4.out⟩
              · clear hp4
                obtain ⟨dv, fv, hc⟩ := HCli.out
                have HCC := hid hc
                clear hc
                have HNO : Hid (1 ≤ c.node ∧ c.node ≤ 7) := ⟨HS.out.ok.node.1, by have := HS.out.ok.node; have := HS.out.ok.nodes; omega⟩
                have HWT : Hid (0 ≤ c.waited ∧ c.waited ≤ 1000000) := ⟨HS.out.ok.waited.1, by have := HS.out.ok.waited; have := HS.out.ok.retry; omega⟩
                go_wp2_with fail
                refine (clTick_any wX n _ c dv fv HCC.out HS.out.ok.nodes HNO.out HWT.out HS.out.ok.data).mono ?_
                rintro e w4 ⟨v, rfl, a4, q4, dv4, fv4, rfl, h4, l4, hk⟩
                have R4 : Hid (StepOk k c (ctickD c).1 (ctickD c).2 ∧ Keeps [n] wX w4 ∧ (∃ dv fv, CliAt w4 n (fun x => x ≠ n ∧ x ≠ b) (ctickD c).1 dv fv) ∧ ListAt msgL w4 (fun x => wX.heap.size ≤ x) (.slice a4 (ctickD c).2.length q4) (ctickD c).2) :=
                  ⟨tick_step HS.out.ok HS.out.last, hk, ⟨_, _, h4⟩, l4⟩
                clear hk h4 l4
                go_wp2_with fail
                go_meet
                case rel => exact ⟨_, _, _, _, rfl, R4.out⟩
              · have x14 : wX.cell? ⟨wr.heap.size, 14, none⟩ = some (.int .i64 o.m.a) := HX.out 14 _ rfl
                have x1 : wX.cell? ⟨wr.heap.size, 1, none⟩ = some (.int .i64 o.n) := HX.out 1 _ rfl
                have x11 : wX.cell? ⟨wr.heap.size, 11, none⟩ = some (.int .i64 o.m.frm) := HX.out 11 _ rfl
                have c0 : wX.cell? ⟨f, 0, none⟩ = some (.int .i64 N) := KX.out.cellSome (cell_of_block HS.out.row 0) (by simp)
                obtain ⟨p1, hp1⟩ : ∃ p, placeOf o.m.frm N = p := ⟨_, rfl⟩
                obtain ⟨p2, hp2⟩ : ∃ p, placeOf o.n 40 = p := ⟨_, rfl⟩
                have hb1 : 0 ≤ p1 ∧ p1 < N := by rw [← hp1]; exact placeOf_bd _ _ (by have := HN1.out; omega)
                have hb2 : 0 ≤ p2 ∧ p2 < 40 := by rw [← hp2]; exact placeOf_bd _ _ (by decide)
                have hw1 : IntKind.i64.wrap (1 + p1) = 1 + p1 := by have := HN1.out; rw [IntKind.wrap_i64]; omega
                have hw2 : IntKind.i64.wrap (1 + p2) = 1 + p2 := by rw [IntKind.wrap_i64]; omega
                have HP1 := hid (fun wy => place_is p1 o.m.frm N wy (by have := HN1.out; omega) (by have := HN1.out; omega) HOZ.out.m.1.frm hp1)
                have HP2 := hid (fun wy => place_is p2 o.n 40 wy (by decide) (by decide) HOZ.out.n hp2)
                have HS9 := hid (show (k : Int) ≤ 1000 by omega)
                obtain ⟨dv, fv, hc⟩ := HCli.out
                have HCC := hid hc
                have HHO : Hid (HearOk c) := ⟨⟨HS.out.ok.request.1, fun _ => by have := HS.out.ok.request; omega⟩, HS.out.ok.call, HS.out.ok.data⟩
                clear hc hp1 hp2 hb1 hb2 hp4 hk60
                obtain ⟨p3, hp3⟩ : ∃ p, placeOf o.m.a 8 = p := ⟨_, rfl⟩
                have HP3 := hid (fun wy => place_is p3 o.m.a 8 wy (by decide) (by decide) HOZ.out.m.1.a hp3)
                clear hp3
                go_wp2_with fail
                refine Plan.wp_region_plan (fun wx => wx.cell? ⟨wr.heap.size, 1, none⟩ = some (.int .i64 o.n) ∧ wx.cell? ⟨wr.heap.size, 11, none⟩ = some (.int .i64 o.m.frm) ∧ wx.cell? ⟨wr.heap.size, 14, none⟩ = some (.int .i64 o.m.a) ∧ wx.cell? ⟨f, 0, none⟩ = some (.int .i64 N)) 22 [(true, 0), (true, 1), (true, 2), (true, 3), (true, 4), (true, 5), (true, 8), (true, 9), (true, 12), (true, 13), (true, 14), (false, 6), (true, 7), (false, 10), (true, 11), (false, 15), (true, 16), (false, 17), (true, 18), (true, 19), (true, 20), (true, 21)] (by kernel_rfl) (by as_aux_lemma => kernel_rfl) (by kernel_rfl) (fun _ _ _ _ _ h => h) ?_ (fun hS => ?_)
                (· go_simp)
                simp only [Plan.pick, List.append_eq, List.cons_append, List.nil_append, Plan.g1, Plan.g2, Option.getD_some, List.drop_succ_cons, List.drop_zero]
                iterate 11 (first | refine Plan.tA ?_ | refine Plan.tY ?_ | refine Plan.pN ?_ | refine Plan.pU ?_ | fail)
                refine Plan.step ?_
                go_wp2_with fail
                refine (HP1.out _).mono ?_
                rintro e w3 ⟨rfl, hw3⟩
                rw [hw3]
                clear hw3 w3
                go_wp2_with fail
                refine ⟨?_, ?_⟩
                (· go_simp)
                iterate 1 (first | refine Plan.tA ?_ | refine Plan.tY ?_ | refine Plan.pN ?_ | refine Plan.pU ?_ | fail)
                refine Plan.step ?_
                go_wp2_with fail
                refine (HP2.out _).mono ?_
                rintro e w3 ⟨rfl, hw3⟩
                rw [hw3]
                clear hw3 w3
                go_wp2_with fail
                refine ⟨?_, ?_⟩
                (· go_simp)
                iterate 1 (first | refine Plan.tA ?_ | refine Plan.tY ?_ | refine Plan.pN ?_ | refine Plan.pU ?_ | fail)
                refine Plan.step ?_
                go_wp2_with fail
                refine (HP3.out _).mono ?_
                rintro e w3 ⟨rfl, hw3⟩
                rw [hw3]
                clear hw3 w3
                go_wp2_with fail
                refine ⟨?_, ?_⟩
                (· go_simp)
                iterate 1 (first | refine Plan.tA ?_ | refine Plan.tY ?_ | refine Plan.pN ?_ | refine Plan.pU ?_ | fail)
                refine Plan.step ?_
                go_wp2_with fail
                refine (clHear_any wX.drew n _ c dv fv ⟨7, 1 + p1, 101, 0, p3, 0, 1 + p2, false, [], []⟩ none none 0 0 0 (HT.out.k (KW.out.trans (G := []) (by exact Keeps.K) (fun _ _ h => h))) (HCC.out.k (by exact Keeps.K)) HHO.out (BytesAt.nil _ (fun _ => True) none 0).1 (by show (0 : Nat) ≤ _; decide) (fun y hy => HQ.out y (by simpa using hy))).mono ?_
                rintro e w4 ⟨v, rfl, a4, q4, dv4, fv4, rfl, h4, l4, hk⟩
                have hk1 : Keeps [n] wX w4 := Keeps.trans (F := [n]) (show Keeps [n] wX wX.drew by exact Keeps.K) hk (fun _ _ h => h)
                have R4 : Hid (StepOk k c (chearD c ⟨7, 1 + p1, 101, 0, p3, 0, 1 + p2, false, [], []⟩).1 (chearD c ⟨7, 1 + p1, 101, 0, p3, 0, 1 + p2, false, [], []⟩).2.1 ∧ Keeps [n] wX w4 ∧ (∃ dv fv, CliAt w4 n (fun x => x ≠ n ∧ x ≠ b) (chearD c ⟨7, 1 + p1, 101, 0, p3, 0, 1 + p2, false, [], []⟩).1 dv fv) ∧ ListAt msgL w4 (fun x => wX.heap.size ≤ x) (.slice a4 (chearD c ⟨7, 1 + p1, 101, 0, p3, 0, 1 + p2, false, [], []⟩).2.1.length q4) (chearD c ⟨7, 1 + p1, 101, 0, p3, 0, 1 + p2, false, [], []⟩).2.1) :=
                  ⟨hear_step HS.out.ok HS.out.last HS9.out _, hk1, ⟨_, _, h4⟩, l4.mono (fun y _ hy => by simpa using hy)⟩
                have y1 := hk1.cellSome x1 (by simp; have := HNW.out; omega)
                have y11 := hk1.cellSome x11 (by simp; have := HNW.out; omega)
                have y14 := hk1.cellSome x14 (by simp; have := HNW.out; omega)
                have d0 := hk1.cellSome c0 (by simp; have := hfn.out; omega)
                clear hk hk1 h4 l4 x1 x11 x14 c0 hS
                go_wp2_with fail
                refine ⟨⟨y1, y11, y14, d0⟩, ?_⟩
                iterate 4 (first | refine Plan.tA ?_ | refine Plan.tY ?_ | refine Plan.pN ?_ | refine Plan.pU ?_ | fail)
                refine Plan.fin ?_
                go_wp2_with fail
                go_meet
                case rel => exact ⟨_, _, _, _, rfl, R4.out⟩
              · have x20 : wX.cell? ⟨wr.heap.size, 20, none⟩ = some (.int .i64 o.r.err) := HX.out 20 _ rfl
                have x21 : wX.cell? ⟨wr.heap.size, 21, none⟩ = some (.int .i64 o.r.n) := HX.out 21 _ rfl
                have x22 : wX.cell? ⟨wr.heap.size, 22, none⟩ = some (.int .i64 o.r.value.kind) := HX.out 22 _ rfl
                have x23 : wX.cell? ⟨wr.heap.size, 23, none⟩ = some (.int .i64 o.r.value.n) := HX.out 23 _ rfl
                have x24 : wX.cell? ⟨wr.heap.size, 24, none⟩ = some (.string o.r.value.s) := HX.out 24 _ rfl
                have x1 : wX.cell? ⟨wr.heap.size, 1, none⟩ = some (.int .i64 o.n) := HX.out 1 _ rfl
                have x11 : wX.cell? ⟨wr.heap.size, 11, none⟩ = some (.int .i64 o.m.frm) := HX.out 11 _ rfl
                have c0 : wX.cell? ⟨f, 0, none⟩ = some (.int .i64 N) := KX.out.cellSome (cell_of_block HS.out.row 0) (by simp)
                obtain ⟨p1, hp1⟩ : ∃ p, placeOf o.m.frm N = p := ⟨_, rfl⟩
                obtain ⟨p2, hp2⟩ : ∃ p, placeOf o.n 40 = p := ⟨_, rfl⟩
                have hb1 : 0 ≤ p1 ∧ p1 < N := by rw [← hp1]; exact placeOf_bd _ _ (by have := HN1.out; omega)
                have hb2 : 0 ≤ p2 ∧ p2 < 40 := by rw [← hp2]; exact placeOf_bd _ _ (by decide)
                have hw1 : IntKind.i64.wrap (1 + p1) = 1 + p1 := by have := HN1.out; rw [IntKind.wrap_i64]; omega
                have hw2 : IntKind.i64.wrap (1 + p2) = 1 + p2 := by rw [IntKind.wrap_i64]; omega
                have HP1 := hid (fun wy => place_is p1 o.m.frm N wy (by have := HN1.out; omega) (by have := HN1.out; omega) HOZ.out.m.1.frm hp1)
                have HP2 := hid (fun wy => place_is p2 o.n 40 wy (by decide) (by decide) HOZ.out.n hp2)
                have HS9 := hid (show (k : Int) ≤ 1000 by omega)
                obtain ⟨dv, fv, hc⟩ := HCli.out
                have HCC := hid hc
                have HHO : Hid (HearOk c) := ⟨⟨HS.out.ok.request.1, fun _ => by have := HS.out.ok.request; omega⟩, HS.out.ok.call, HS.out.ok.data⟩
                clear hc hp1 hp2 hb1 hb2 hp4 hk60
                have hfX := HZX.out
                obtain ⟨-, -, hfX, -⟩ := hfX
                have hrX : wr.heap.size < wX.heap.size := HRX.out
                go_wp2_with fail
                refine (r14CheckR_any o.r _ (HT.out.k (KW.out.trans (G := []) (by exact Keeps.K) (fun _ _ h => h)))).mono ?_
                rintro e w3 ⟨rfl, hk3⟩
                have k3 : Keeps [] wX w3 := Keeps.trans (G := []) (by exact Keeps.K) hk3 (fun _ _ h => h)
                have hb3 := (hk3.block wX.heap.size (by simp) (by simp)).trans (heap_alloc_new wX _)
                obtain ⟨⟨r0, r1, r2, r3, r4⟩, fr⟩ := blk5 hb3
                have hz3 : wX.heap.size < w3.heap.size := (Array.getElem?_eq_some_iff.1 hb3).1
                have y1 := k3.cellSome x1 (by simp)
                have y11 := k3.cellSome x11 (by simp)
                have d0 := k3.cellSome c0 (by simp)
                have K3 := hid k3
                clear k3 hk3 hb3 x1 x11 c0 x20 x21 x22 x23 x24
                obtain ⟨bc, hbc⟩ : ∃ b, checkR o.r = b := ⟨_, rfl⟩
                rw [hbc]
                clear hbc
                rcases bc with _ | _
                · have HRW : Hid (ReplyW ⟨0, 3, ⟨0, 0, ⟨#[]⟩⟩⟩) := ⟨I64_0, by constructor <;> decide, I64_0, I64_0, by show (0 : Nat) ≤ _; decide⟩
                  go_wp2_with fail
                  refine Plan.wp_region_plan (fun wx => (wx.cell? ⟨wr.heap.size, 1, none⟩ = some (.int .i64 o.n) ∧ wx.cell? ⟨wr.heap.size, 11, none⟩ = some (.int .i64 o.m.frm) ∧ wx.cell? ⟨f, 0, none⟩ = some (.int .i64 N)) ∧ wx.cell? ⟨wX.heap.size, 0, none⟩ = some (.int .i64 (0)) ∧ wx.cell? ⟨wX.heap.size, 1, none⟩ = some (.int .i64 (3)) ∧ wx.cell? ⟨wX.heap.size, 2, none⟩ = some (.int .i64 (0)) ∧ wx.cell? ⟨wX.heap.size, 3, none⟩ = some (.int .i64 (0)) ∧ wx.cell? ⟨wX.heap.size, 4, none⟩ = some (.string (⟨#[]⟩))) 19 [(true, 0), (true, 1), (true, 2), (true, 3), (true, 4), (true, 5), (true, 8), (true, 9), (true, 12), (false, 6), (true, 7), (false, 10), (true, 11), (false, 13), (false, 14), (true, 15), (true, 16), (true, 17), (true, 18)] (by kernel_rfl) (by as_aux_lemma => kernel_rfl) (by kernel_rfl) (fun _ _ _ _ _ h => h) ?_ (fun hS => ?_)
                  (· go_simp)
                  simp only [Plan.pick, List.append_eq, List.cons_append, List.nil_append, Plan.g1, Plan.g2, Option.getD_some, List.drop_succ_cons, List.drop_zero]
                  iterate 9 (first | refine Plan.tA ?_ | refine Plan.tY ?_ | refine Plan.pN ?_ | refine Plan.pU ?_ | fail)
                  refine Plan.step ?_
                  go_wp2_with fail
                  refine (HP1.out _).mono ?_
                  rintro e w5 ⟨rfl, hw5⟩
                  rw [hw5]
                  clear hw5 w5
                  go_wp2_with fail
                  refine ⟨?_, ?_⟩
                  (· go_simp)
                  iterate 1 (first | refine Plan.tA ?_ | refine Plan.tY ?_ | refine Plan.pN ?_ | refine Plan.pU ?_ | fail)
                  refine Plan.step ?_
                  go_wp2_with fail
                  refine (HP2.out _).mono ?_
                  rintro e w5 ⟨rfl, hw5⟩
                  rw [hw5]
                  clear hw5 w5
                  go_wp2_with fail
                  refine ⟨?_, ?_⟩
                  (· go_simp)
                  iterate 1 (first | refine Plan.tA ?_ | refine Plan.tY ?_ | refine Plan.pN ?_ | refine Plan.pU ?_ | fail)
                  refine Plan.step ?_
                  go_wp2_with fail
                  refine (told24_any (1 + p1) 101 (1 + p2) ⟨0, 3, ⟨0, 0, ⟨#[]⟩⟩⟩ HRW.out _).mono ?_
                  rintro e w5 ⟨a5, q5, rfl, d5, hk5⟩
                  have e0 : w5.cell? ⟨wr.heap.size, 1, none⟩ = some (.int .i64 o.n) := hk5.cellSome (by go_simp) (by simp)
                  have e1 : w5.cell? ⟨wr.heap.size, 11, none⟩ = some (.int .i64 o.m.frm) := hk5.cellSome (by go_simp) (by simp)
                  have e2 : w5.cell? ⟨f, 0, none⟩ = some (.int .i64 N) := hk5.cellSome (by go_simp) (by simp)
                  have e3 : w5.cell? ⟨wX.heap.size, 0, none⟩ = some (.int .i64 (0)) := hk5.cellSome (by go_simp) (by simp)
                  have e4 : w5.cell? ⟨wX.heap.size, 1, none⟩ = some (.int .i64 (3)) := hk5.cellSome (by go_simp) (by simp)
                  have e5 : w5.cell? ⟨wX.heap.size, 2, none⟩ = some (.int .i64 (0)) := hk5.cellSome (by go_simp) (by simp)
                  have e6 : w5.cell? ⟨wX.heap.size, 3, none⟩ = some (.int .i64 (0)) := hk5.cellSome (by go_simp) (by simp)
                  have e7 : w5.cell? ⟨wX.heap.size, 4, none⟩ = some (.string (⟨#[]⟩)) := hk5.cellSome (by go_simp) (by simp)
                  have K5 : Hid (Keeps [] wX w5) := Keeps.trans (F := []) (G := []) (by have kk := K3.out; exact Keeps.K) hk5 (fun _ _ h => h)
                  have D5 := hid d5.1
                  clear hk5 d5 hS y1 y11 d0 r0 r1 r2 r3 r4 fr
                  go_wp2_with fail
                  refine ⟨⟨⟨e0, e1, e2⟩, e3, e4, e5, e6, e7⟩, ?_⟩
                  refine Plan.step ?_
                  go_wp2_with fail
                  refine (clHear_any w5 n _ c dv fv ⟨7, 1 + p1, 101, 0, 0, 0, 1 + p2, true, [], putR ⟨0, 3, ⟨0, 0, ⟨#[]⟩⟩⟩⟩ none a5 0 0 q5 (HT.out.k (KW.out.trans K5.out (fun _ _ h => h))) (HCC.out.k K5.out) HHO.out D5.out (by have := putR_most _ HRW.out; show (putR ⟨0, 3, ⟨0, 0, ⟨#[]⟩⟩⟩).length ≤ _; omega) (fun y hy => HQ.out y (by have := K5.out.size; omega))).mono ?_
                  rintro e w4 ⟨v, rfl, a4, q4, dv4, fv4, rfl, h4, l4, hk⟩
                  have hk1 : Keeps [n] wX w4 := (K5.out.mono (fun _ _ h => by cases h)).trans hk (fun _ _ h => h)
                  have R4 : Hid (StepOk k c (chearD c ⟨7, 1 + p1, 101, 0, 0, 0, 1 + p2, true, [], putR ⟨0, 3, ⟨0, 0, ⟨#[]⟩⟩⟩⟩).1 (chearD c ⟨7, 1 + p1, 101, 0, 0, 0, 1 + p2, true, [], putR ⟨0, 3, ⟨0, 0, ⟨#[]⟩⟩⟩⟩).2.1 ∧ Keeps [n] wX w4 ∧ (∃ dv fv, CliAt w4 n (fun x => x ≠ n ∧ x ≠ b) (chearD c ⟨7, 1 + p1, 101, 0, 0, 0, 1 + p2, true, [], putR ⟨0, 3, ⟨0, 0, ⟨#[]⟩⟩⟩⟩).1 dv fv) ∧ ListAt msgL w4 (fun x => wX.heap.size ≤ x) (.slice a4 (chearD c ⟨7, 1 + p1, 101, 0, 0, 0, 1 + p2, true, [], putR ⟨0, 3, ⟨0, 0, ⟨#[]⟩⟩⟩⟩).2.1.length q4) (chearD c ⟨7, 1 + p1, 101, 0, 0, 0, 1 + p2, true, [], putR ⟨0, 3, ⟨0, 0, ⟨#[]⟩⟩⟩⟩).2.1) :=
                    ⟨hear_step HS.out.ok HS.out.last HS9.out _, hk1, ⟨_, _, h4⟩, l4.mono (fun y _ hy => by have := K5.out.size; omega)⟩
                  have g0 := hk.cellSome e0 (by simp; have := HNW.out; have := hfn.out; omega)
                  have g1 := hk.cellSome e1 (by simp; have := HNW.out; have := hfn.out; omega)
                  have g2 := hk.cellSome e2 (by simp; have := HNW.out; have := hfn.out; omega)
                  have g3 := hk.cellSome e3 (by simp; have := HNW.out; have := hfn.out; omega)
                  have g4 := hk.cellSome e4 (by simp; have := HNW.out; have := hfn.out; omega)
                  have g5 := hk.cellSome e5 (by simp; have := HNW.out; have := hfn.out; omega)
                  have g6 := hk.cellSome e6 (by simp; have := HNW.out; have := hfn.out; omega)
                  have g7 := hk.cellSome e7 (by simp; have := HNW.out; have := hfn.out; omega)
                  clear hk hk1 h4 l4 e0 e1 e2 e3 e4 e5 e6 e7
                  go_wp2_with fail
                  refine ⟨⟨⟨g0, g1, g2⟩, g3, g4, g5, g6, g7⟩, ?_⟩
                  iterate 4 (first | refine Plan.tA ?_ | refine Plan.tY ?_ | refine Plan.pN ?_ | refine Plan.pU ?_ | fail)
                  refine Plan.fin ?_
                  go_wp2_with fail
                  go_meet
                  case rel => exact ⟨_, _, _, _, rfl, R4.out⟩
                · have HRW : Hid (ReplyW o.r) := ⟨HOZ.out.r.err, HOZ.out.r.n, HOZ.out.r.vkind, HOZ.out.r.vn, by have := HZ3.out; omega⟩
                  go_wp2_with fail
                  refine Plan.wp_region_plan (fun wx => (wx.cell? ⟨wr.heap.size, 1, none⟩ = some (.int .i64 o.n) ∧ wx.cell? ⟨wr.heap.size, 11, none⟩ = some (.int .i64 o.m.frm) ∧ wx.cell? ⟨f, 0, none⟩ = some (.int .i64 N)) ∧ wx.cell? ⟨wX.heap.size, 0, none⟩ = some (.int .i64 (o.r.err)) ∧ wx.cell? ⟨wX.heap.size, 1, none⟩ = some (.int .i64 (o.r.n)) ∧ wx.cell? ⟨wX.heap.size, 2, none⟩ = some (.int .i64 (o.r.value.kind)) ∧ wx.cell? ⟨wX.heap.size, 3, none⟩ = some (.int .i64 (o.r.value.n)) ∧ wx.cell? ⟨wX.heap.size, 4, none⟩ = some (.string (o.r.value.s))) 19 [(true, 0), (true, 1), (true, 2), (true, 3), (true, 4), (true, 5), (true, 8), (true, 9), (true, 12), (false, 6), (true, 7), (false, 10), (true, 11), (false, 13), (false, 14), (true, 15), (true, 16), (true, 17), (true, 18)] (by kernel_rfl) (by as_aux_lemma => kernel_rfl) (by kernel_rfl) (fun _ _ _ _ _ h => h) ?_ (fun hS => ?_)
                  (· go_simp)
                  simp only [Plan.pick, List.append_eq, List.cons_append, List.nil_append, Plan.g1, Plan.g2, Option.getD_some, List.drop_succ_cons, List.drop_zero]
                  iterate 9 (first | refine Plan.tA ?_ | refine Plan.tY ?_ | refine Plan.pN ?_ | refine Plan.pU ?_ | fail)
                  refine Plan.step ?_
                  go_wp2_with fail
                  refine (HP1.out _).mono ?_
                  rintro e w5 ⟨rfl, hw5⟩
                  rw [hw5]
                  clear hw5 w5
                  go_wp2_with fail
                  refine ⟨?_, ?_⟩
                  (· go_simp)
                  iterate 1 (first | refine Plan.tA ?_ | refine Plan.tY ?_ | refine Plan.pN ?_ | refine Plan.pU ?_ | fail)
                  refine Plan.step ?_
                  go_wp2_with fail
                  refine (HP2.out _).mono ?_
                  rintro e w5 ⟨rfl, hw5⟩
                  rw [hw5]
                  clear hw5 w5
                  go_wp2_with fail
                  refine ⟨?_, ?_⟩
                  (· go_simp)
                  iterate 1 (first | refine Plan.tA ?_ | refine Plan.tY ?_ | refine Plan.pN ?_ | refine Plan.pU ?_ | fail)
                  refine Plan.step ?_
                  go_wp2_with fail
                  refine (told24_any (1 + p1) 101 (1 + p2) o.r HRW.out _).mono ?_
                  rintro e w5 ⟨a5, q5, rfl, d5, hk5⟩
                  have e0 : w5.cell? ⟨wr.heap.size, 1, none⟩ = some (.int .i64 o.n) := hk5.cellSome (by go_simp) (by simp)
                  have e1 : w5.cell? ⟨wr.heap.size, 11, none⟩ = some (.int .i64 o.m.frm) := hk5.cellSome (by go_simp) (by simp)
                  have e2 : w5.cell? ⟨f, 0, none⟩ = some (.int .i64 N) := hk5.cellSome (by go_simp) (by simp)
                  have e3 : w5.cell? ⟨wX.heap.size, 0, none⟩ = some (.int .i64 (o.r.err)) := hk5.cellSome (by go_simp) (by simp)
                  have e4 : w5.cell? ⟨wX.heap.size, 1, none⟩ = some (.int .i64 (o.r.n)) := hk5.cellSome (by go_simp) (by simp)
                  have e5 : w5.cell? ⟨wX.heap.size, 2, none⟩ = some (.int .i64 (o.r.value.kind)) := hk5.cellSome (by go_simp) (by simp)
                  have e6 : w5.cell? ⟨wX.heap.size, 3, none⟩ = some (.int .i64 (o.r.value.n)) := hk5.cellSome (by go_simp) (by simp)
                  have e7 : w5.cell? ⟨wX.heap.size, 4, none⟩ = some (.string (o.r.value.s)) := hk5.cellSome (by go_simp) (by simp)
                  have K5 : Hid (Keeps [] wX w5) := Keeps.trans (F := []) (G := []) (by have kk := K3.out; exact Keeps.K) hk5 (fun _ _ h => h)
                  have D5 := hid d5.1
                  clear hk5 d5 hS y1 y11 d0 r0 r1 r2 r3 r4 fr
                  go_wp2_with fail
                  refine ⟨⟨⟨e0, e1, e2⟩, e3, e4, e5, e6, e7⟩, ?_⟩
                  refine Plan.step ?_
                  go_wp2_with fail
                  refine (clHear_any w5 n _ c dv fv ⟨7, 1 + p1, 101, 0, 0, 0, 1 + p2, true, [], putR o.r⟩ none a5 0 0 q5 (HT.out.k (KW.out.trans K5.out (fun _ _ h => h))) (HCC.out.k K5.out) HHO.out D5.out (by have := putR_most _ HRW.out; show (putR o.r).length ≤ _; omega) (fun y hy => HQ.out y (by have := K5.out.size; omega))).mono ?_
                  rintro e w4 ⟨v, rfl, a4, q4, dv4, fv4, rfl, h4, l4, hk⟩
                  have hk1 : Keeps [n] wX w4 := (K5.out.mono (fun _ _ h => by cases h)).trans hk (fun _ _ h => h)
                  have R4 : Hid (StepOk k c (chearD c ⟨7, 1 + p1, 101, 0, 0, 0, 1 + p2, true, [], putR o.r⟩).1 (chearD c ⟨7, 1 + p1, 101, 0, 0, 0, 1 + p2, true, [], putR o.r⟩).2.1 ∧ Keeps [n] wX w4 ∧ (∃ dv fv, CliAt w4 n (fun x => x ≠ n ∧ x ≠ b) (chearD c ⟨7, 1 + p1, 101, 0, 0, 0, 1 + p2, true, [], putR o.r⟩).1 dv fv) ∧ ListAt msgL w4 (fun x => wX.heap.size ≤ x) (.slice a4 (chearD c ⟨7, 1 + p1, 101, 0, 0, 0, 1 + p2, true, [], putR o.r⟩).2.1.length q4) (chearD c ⟨7, 1 + p1, 101, 0, 0, 0, 1 + p2, true, [], putR o.r⟩).2.1) :=
                    ⟨hear_step HS.out.ok HS.out.last HS9.out _, hk1, ⟨_, _, h4⟩, l4.mono (fun y _ hy => by have := K5.out.size; omega)⟩
                  have g0 := hk.cellSome e0 (by simp; have := HNW.out; have := hfn.out; omega)
                  have g1 := hk.cellSome e1 (by simp; have := HNW.out; have := hfn.out; omega)
                  have g2 := hk.cellSome e2 (by simp; have := HNW.out; have := hfn.out; omega)
                  have g3 := hk.cellSome e3 (by simp; have := HNW.out; have := hfn.out; omega)
                  have g4 := hk.cellSome e4 (by simp; have := HNW.out; have := hfn.out; omega)
                  have g5 := hk.cellSome e5 (by simp; have := HNW.out; have := hfn.out; omega)
                  have g6 := hk.cellSome e6 (by simp; have := HNW.out; have := hfn.out; omega)
                  have g7 := hk.cellSome e7 (by simp; have := HNW.out; have := hfn.out; omega)
                  clear hk hk1 h4 l4 e0 e1 e2 e3 e4 e5 e6 e7
                  go_wp2_with fail
                  refine ⟨⟨⟨g0, g1, g2⟩, g3, g4, g5, g6, g7⟩, ?_⟩
                  iterate 4 (first | refine Plan.tA ?_ | refine Plan.tY ?_ | refine Plan.pN ?_ | refine Plan.pU ?_ | fail)
                  refine Plan.fin ?_
                  go_wp2_with fail
                  go_meet
                  case rel => exact ⟨_, _, _, _, rfl, R4.out⟩
            case rest =>
              obtain ⟨c', l', a', q', rfl, hR⟩ := hcut
              obtain ⟨hst, hkc, hci, hli⟩ := hR.out
              have HST := hid hst
              have HKC := hid hkc
              have HCI := hid hci
              have HLI := hid hli
              have hcf : c'.conf = confS N R := hst.conf.trans HS.out.conf
              have hid' : c'.id = 101 := hst.id.trans HS.out.id
              have HCF' := hid hcf
              have HID := hid hid'
              have hll : l'.length ≤ 1 := by
                rcases hst.told with h0 | ⟨-, -, h0⟩
                · rw [h0]; decide
                · rw [h0]; show (1 : Nat) ≤ 1; decide
              have HARR : Hid (wc.heap[b]? = some (.cells (D.map Value.string).toArray 30 (0, 0))) := by
                have h1 := (KX.out.block b (by have := HBB.out; have := (Array.getElem?_eq_some_iff.1 HS.out.arr).1; omega) (by simp)).trans HS.out.arr
                exact (hkc.block b HZX.out.2.1 (by simp; have := HBB.out; omega)).trans h1
              have HROW : Hid (wc.heap[f]? = some (.cells #[.int .i64 N, .int .i64 3, .int .i64 2, .int .i64 8, .int .i64 40, .int .i64 3, .int .i64 6, .int .i64 200, .int .i64 R] 24 (0, 0))) := by
                have h1 := (KX.out.block f (Array.getElem?_eq_some_iff.1 HS.out.row).1 (by simp)).trans HS.out.row
                exact (hkc.block f HZX.out.2.2.1 (by simp; have := hfn.out; omega)).trans h1
              clear hR hst hkc hci hli hcf hid' x0 x5 x9 x24 j1 j2 j3
              go_wp2_with fail
              go_loopw [15] (fun i wy => ∃ kk : Nat, i = .int .i64 (kk : Int) ∧ (kk : Int) ≤ l'.length ∧ Hid (∃ D', Keeps [b] wc wy ∧ wy.heap[b]? = some (.cells (D'.map Value.string).toArray 30 (0, 0)) ∧ DataOk c' D')) (fun i _ => 10 - (intOf i).toNat)
              case atStart => exact ⟨0, rfl, by omega, D, Keeps.refl _ _, HARR.out, HS.out.data.step HST.out⟩
              case round =>
                obtain ⟨kk, rfl, hkk, HW⟩ := hrel
                have hkk0 : (0 : Int) ≤ (kk : Int) := Int.natCast_nonneg _
                by_cases hgo : (kk : Int) < (l'.length : Int)
                · rcases HST.out.told with h0 | ⟨hq1, hdne, hm⟩
                  · rw [h0] at hgo; simp at hgo; omega
                  · subst hm
                    obtain ⟨D', kb, ha, hda⟩ := HW.out
                    have HKB := hid kb
                    have HA := hid ha
                    have HDA := hid hda
                    obtain rfl : kk = 0 := by simp at hgo; omega
                    have c0 : wr.cell? ⟨f, 0, none⟩ = some (.int .i64 N) := kb.cellSome (cell_of_block HROW.out 0) (by simp; have := hfn.out; have := HBB.out; omega)
                    obtain ⟨g5, o5, k5, e5, cc5, d5, f5, ha5, y0, y1, y2, y3, y4, y5, y6, y7, y8, y9, ye, yb⟩ := (HLI.out.keep kb (fun x hx hm => by simp at hm; have := HZX.out; omega)).msg (j := 0) rfl
                    simp only [Value.slice.injEq] at ha5
                    obtain ⟨rfl, -, rfl⟩ := ha5
                    have YB := hid yb.1
                    have hnb := HST.out.ok.node
                    have hcn : c'.conf.nodes = N := by rw [HCF'.out]; rfl
                    obtain ⟨q, hq⟩ : ∃ q : Nat, c'.request = (q : Int) := ⟨c'.request.toNat, by omega⟩
                    have hqb : 1 ≤ q ∧ q < 400 := by have := HST.out.ok.request; omega
                    have HQQ := hid hq
                    have HQB := hid hqb
                    obtain ⟨nd, hnd⟩ : ∃ nd, c'.node = nd := ⟨_, rfl⟩
                    obtain ⟨dt, hdt⟩ : ∃ dt, c'.last.data = dt := ⟨_, rfl⟩
                    have HDT := hid hdt
                    rw [hcn, hnd] at hnb
                    rw [hdt] at hdne YB
                    dsimp only at y0 y1 y2 y3 y4 y5 y6 y7 y8 y9
                    rw [HID.out] at y1
                    rw [hnd] at y2
                    rw [hq] at y6
                    rw [hdt] at y9
                    have HNE : Hid (dt ≠ []) := hdne
                    have n1 : (nd < 1) = False := eq_false (by omega)
                    have n2 : (N < nd) = False := eq_false (by omega)
                    have n3 : ((q : Int) < 1) = False := eq_false (by omega)
                    have n4 : (400 ≤ (q : Int)) = False := eq_false (by omega)
                    have n5 : ((dt.length : Int) == 0) = false := by
                      rw [beq_eq_false_iff_ne]
                      have := List.length_pos_iff.2 hdne
                      omega
                    simp only [List.length_cons, List.length_nil, Nat.zero_add, Nat.zero_mul, Nat.add_zero] at y0 y1 y2 y3 y4 y5 y6 y7 y8 y9 hgo hkk hll ⊢
                    have hg5 : g5 < wr.heap.size := World.block_lt_of_cell? _ _ y0
                    have hfl : f < wr.heap.size := World.block_lt_of_cell? _ _ c0
                    clear ye yb kb ha hda HW hnb hcn hq hnd hdt hdne hqb hq1
                    go_upto_region 31 with fail
                    obtain ⟨wM, hwM⟩ : ∃ wM, wr.alloc (.cells #[.int .i64 6, .int .i64 101, .int .i64 nd, .int .i64 0, .int .i64 0, .int .i64 0, .int .i64 (q : Int), .bool false, .slice e5 0 cc5, .slice d5 dt.length f5] 38) = wM := ⟨_, rfl⟩
                    have KM : Hid (Keeps [] wr wM) := by rw [← hwM]; show Keeps _ _ _; exact Keeps.K
                    have hbM : wM.heap[wr.heap.size]? = some (.cells #[.int .i64 6, .int .i64 101, .int .i64 nd, .int .i64 0, .int .i64 0, .int .i64 0, .int .i64 (q : Int), .bool false, .slice e5 0 cc5, .slice d5 dt.length f5] 38 (0, 0)) := by rw [← hwM]; exact heap_alloc_new _ _
                    have z6 : wM.cell? ⟨wr.heap.size, 6, none⟩ = some (.int .i64 (q : Int)) := cell_of_block hbM 6
                    have z9 : wM.cell? ⟨wr.heap.size, 9, none⟩ = some (.slice d5 dt.length f5) := cell_of_block hbM 9
                    have haM : wM.heap[b]? = some (.cells (D'.map Value.string).toArray 30 (0, 0)) := (KM.out.block b (Array.getElem?_eq_some_iff.1 HA.out).1 (by simp)).trans HA.out
                    obtain ⟨s, hs, hsv⟩ : ∃ s, D'[q]? = some s ∧ (s = ⟨#[]⟩ ∨ s = str dt) := by
                      rcases HDA.out.last q HQQ.out HQB.out.2 with h | h
                      · exact ⟨_, h, .inl rfl⟩
                      · exact ⟨_, h, .inr (by rw [HDT.out])⟩
                    have zs : wM.cell? ⟨b, q, none⟩ = some (.string s) := by rw [cell_of_block haM q]; simp [hs]
                    have HAM := hid haM
                    have fz : ∀ j, wM.frozen? ⟨b, j, none⟩ = false := fun j => frozen_of_row wM b j _ _ haM
                    have hbl : b < wM.heap.size := (Array.getElem?_eq_some_iff.1 haM).1
                    have hbr : b ≠ wr.heap.size := by have := (Array.getElem?_eq_some_iff.1 HA.out).1; omega
                    have HCV : Hid (∀ wy, Keeps [] wM wy → (convert 36 9 (.slice d5 dt.length f5)).run Tryz.prog wy = .ok (.string (str dt)) wy) := fun wy kk => cv_str ((YB.out.k0 KM.out).k0 kk) rfl
                    rw [hwM]
                    clear hwM hbM haM hs y0 y1 y2 y3 y4 y5 y6 y7 y8 y9
                    refine Plan.wp_region_plan (fun wx => (wx.cell? ⟨wr.heap.size, 6, none⟩ = some (.int .i64 (q : Int)) ∧ wx.cell? ⟨wr.heap.size, 9, none⟩ = some (.slice d5 dt.length f5) ∧ wx.cell? ⟨b, q, none⟩ = some (.string s)) ∧ (convert 36 9 (.slice d5 dt.length f5)).run Tryz.prog wx = .ok (.string (str dt)) wx) 15 [(true, 0), (true, 1), (true, 2), (true, 3), (true, 4), (true, 5), (true, 6), (true, 7), (true, 8), (true, 9), (true, 10), (true, 11), (true, 12), (true, 13), (true, 14)] (by kernel_rfl) (by as_aux_lemma => kernel_rfl) (by kernel_rfl) (fun _ _ _ _ _ h => h) ?_ (fun hS => ?_)
                    (· go_simp; exact HCV.out _ (by exact Keeps.K))
                    simp only [Plan.pick, List.append_eq, List.cons_append, List.nil_append, Plan.g1, Plan.g2, Option.getD_some, List.drop_succ_cons, List.drop_zero]
                    have hne2 : (dt == ([] : List UInt8)) = false := by rw [beq_eq_false_iff_ne]; exact HNE.out
                    have hne0 : (⟨#[]⟩ : ByteArray).toList = [] := by kernel_rfl
                    have hne : ((str dt).toList == (⟨#[]⟩ : ByteArray).toList) = false := by rw [str_toList, hne0]; exact hne2
                    have hne1 : (str dt).toList = dt := str_toList dt
                    have HEND : Hid ((wM.drew.setCell ⟨b, q, none⟩ (.string (str dt))).heap[b]? = some (.cells ((D'.set q (str dt)).map Value.string).toArray 30 (0, 0))) := by
                      have h1 := heap_setCell_same _ _ q _ _ (.string (str dt)) (show wM.drew.heap[b]? = _ from HAM.out)
                      rw [List.setIfInBounds_toArray, ← List.map_set] at h1
                      exact h1
                    have KEND : Hid (Keeps [b] wc (wM.drew.setCell ⟨b, q, none⟩ (.string (str dt)))) := (HKB.out.trans KM.out (fun _ _ h => by cases h)).trans (G := [b]) (by exact Keeps.K) (fun _ _ h => h)
                    have DEND : Hid (DataOk c' (D'.set q (str dt))) := by
                      have := HDA.out.put HQQ.out HQB.out.2
                      rw [HDT.out] at this
                      exact this
                    have hq0 : (0 : Int) ≤ (q : Int) := Int.natCast_nonneg _
                    have hq4 : (q : Int) < 400 := by have := HQB.out; omega
                    have hq5 : q < 400 := HQB.out.2
                    have cvD := HCV.out wM.drew (by exact Keeps.K)
                    rcases hsv with rfl | rfl
                    · iterate 15 (first | refine Plan.tA ?_ | refine Plan.tY ?_ | refine Plan.pN ?_ | refine Plan.pU ?_ | fail)
                      refine Plan.fin ?_
                      go_wp2_with fail
                      go_roundw
                      case rel => exact ⟨1, rfl, by simp, _, KEND.out, HEND.out, DEND.out⟩
                      case measure => simp [intOf]
                    · iterate 15 (first | refine Plan.tA ?_ | refine Plan.tY ?_ | refine Plan.pN ?_ | refine Plan.pU ?_ | fail)
                      refine Plan.fin ?_
                      go_wp2_with fail
                      go_roundw
                      case rel => exact ⟨1, rfl, by simp, _, KEND.out, HEND.out, DEND.out⟩
                      case measure => simp [intOf]
                · have hge : (l'.length : Int) ≤ (kk : Int) := by omega
                  clear hgo
                  have HFIN : Hid (∃ D', SameAt w wr N R f n b ((k + 1 : Nat) : Int) c' D') := by
                    obtain ⟨D', kb, ha, hda⟩ := HW.out
                    have z1 := hwn.out
                    have z2 := HBB.out
                    have z3 := hfn.out
                    refine ⟨D', ?_, ?_, ?_, HST.out.last, HCF'.out, HID.out, ?_, ha, hda⟩
                    · exact (KW.out.trans HKC.out (fun x hx hm => by simp at hm; omega)).trans kb (fun x hx hm => by simp at hm; omega)
                    · obtain ⟨dv, fv, h⟩ := HCI.out
                      exact ⟨dv, fv, h.keep kb (by simp; omega) (fun x hx hm => by simp at hm; exact hx.2 hm)⟩
                    · have := HST.out.ok
                      rw [show ((k + 1 : Nat) : Int) = (k : Int) + 1 by omega]
                      exact this
                    · exact (kb.block f (Array.getElem?_eq_some_iff.1 HROW.out).1 (by simp; omega)).trans HROW.out
                  have hkl1 : k + 1 ≤ l.length := by omega
                  have hk61 : ((k + 1 : Nat) : Int) ≤ 60 := by omega
                  have HKL1 := hid hkl1
                  clear HW
                  go_wp2_with fail
                  go_roundw
                  case rel =>
                    obtain ⟨D', h⟩ := HFIN.out
                    exact ⟨k + 1, rfl, hk61, HKL1.out, c', D', h⟩
                  case measure => simp [intOf]; omega
          · have j1 : 600 < (o.r.value.s.size : Int) := by omega
            have j2 : (o.c.field.size : Int) ≤ 200 := by omega
            have j3 : (o.c.value.s.size : Int) ≤ 600 := by omega
            go_wp2_with fail
            refine (HAW.out _ (HK.out.trans KX.out (fun _ _ h => h))).mono ?_
            rintro e w6 ⟨rfl, hk⟩
            have K6 : Hid (Keeps [] w w6) := (HK.out.trans KX.out (fun _ _ h => h)).trans hk (fun _ _ h => h)
            clear hk
            go_wp2_with fail
            go_ret
            exact ⟨rfl, K6.out⟩
        · have j1 : 600 < (o.c.value.s.size : Int) := by omega
          have j2 : (o.c.field.size : Int) ≤ 200 := by omega
          go_wp2_with fail
          refine (HAW.out _ (HK.out.trans KX.out (fun _ _ h => h))).mono ?_
          rintro e w6 ⟨rfl, hk⟩
          have K6 : Hid (Keeps [] w w6) := (HK.out.trans KX.out (fun _ _ h => h)).trans hk (fun _ _ h => h)
          clear hk
          go_wp2_with fail
          go_ret
          exact ⟨rfl, K6.out⟩
      · have j1 : 200 < (o.c.field.size : Int) := by omega
        go_wp2_with fail
        refine (HAW.out _ (HK.out.trans KX.out (fun _ _ h => h))).mono ?_
        rintro e w6 ⟨rfl, hk⟩
        have K6 : Hid (Keeps [] w w6) := (HK.out.trans KX.out (fun _ _ h => h)).trans hk (fun _ _ h => h)
        clear hk
        go_wp2_with fail
        go_ret
        exact ⟨rfl, K6.out⟩
    · have HGO : Hid ((k : Int) < (l.length : Int) → (60 : Int) ≤ (k : Int)) := fun h => by omega
      by_cases h1 : (k : Int) < (l.length : Int)
      · have h2 : (60 : Int) ≤ (k : Int) := HGO.out h1
        go_wp2_with fail
        refine (HAW.out _ HK.out).mono ?_
        rintro e w6 ⟨rfl, hk⟩
        have K6 : Hid (Keeps [] w w6) := HK.out.trans hk (fun _ _ h => h)
        clear hk
        go_wp2_with fail
        go_ret
        exact ⟨rfl, K6.out⟩
      · have h2 : (l.length : Int) ≤ (k : Int) := by omega
        go_wp2_with fail
        refine (HAW.out _ HK.out).mono ?_
        rintro e w6 ⟨rfl, hk⟩
        have K6 : Hid (Keeps [] w w6) := HK.out.trans hk (fun _ _ h => h)
        clear hk
        go_wp2_with fail
        go_ret
        exact ⟨rfl, K6.out⟩

end Go.Proofs.YtnjdepojmnniaaaGreatDoor
