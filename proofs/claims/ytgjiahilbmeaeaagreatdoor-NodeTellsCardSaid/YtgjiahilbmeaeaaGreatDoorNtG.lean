/- 'NodeTells' returns true. -/
import Derived.Test.YtgjiahilbmeaeaaGreatDoorR24
import Derived.Test.YtgjiahilbmeaeaaGreatDoorR08
import Derived.Deep.CutRange
set_option maxRecDepth 100000
set_option maxHeartbeats 8000000
set_option linter.unusedSimpArgs false
set_option linter.unusedVariables false
namespace Go.Proofs.YtgjiahilbmeaeaaGreatDoor
open Go Go.RowKit
theorem bytes_own {w : World} {g : Nat} {P : Nat → Prop} {cs : Array Value} {t : TypeId} {fr : Nat × Nat} (h : w.heap[g]? = some (.cells cs t fr)) (bs : List UInt8) (hc : cs.toList = u8s bs) (hl : bs.length ≤ 1000) (hP : P g) : BytesAt w P (.slice (some ⟨g, 0, none⟩) bs.length bs.length) bs := by
 refine ⟨by rw [← hc]; exact Reads.ofBlock h (by rw [← Array.length_toList, hc]; simp [u8s]) (le_maxLen (by omega)), fun _ b hb => ?_⟩
 rw [mem_ownB] at hb
 simp [Value.ownBlock] at hb
 rw [← hb]
 exact hP
def MsgBox (w : World) (mb : Nat) (f C : Int) (g : Nat) (n : Nat) : Prop := w.heap[mb]? = some (.cells #[.int .i64 6, .int .i64 f, .int .i64 2, .int .i64 0, .int .i64 0, .int .i64 0, .int .i64 C, .bool false, .slice none 0 0, .slice (some ⟨g, 0, none⟩) n n] 30 (0, 0))
theorem tells_any (n frm c : Int) (w : World) (hT : Tabs w) (hE : Errs w) (wn : (Lit.int .i64 n).wf = true) (wf : (Lit.int .i64 frm).wf = true) (wc : (Lit.int .i64 c).wf = true) :
 Calls Tryz.prog 3 #[.int .i64 n, .int .i64 frm, .int .i64 c] w fun e w' => e = .returned (.bool true) ∧ Keeps [] w w' := by
 have HT := hid (And.intro hT hE)
 have HO := hid (open23_any 50 n 2 w hT hE (by decide) wn (by decide))
 obtain ⟨f, hf⟩ : ∃ f, placeOf frm 899 = f := ⟨_, rfl⟩
 obtain ⟨C, hC⟩ : ∃ C, placeOf c 1073741824 = C := ⟨_, rfl⟩
 have hfb := placeOf_bd frm 899 (by decide)
 rw [hf] at hfb
 have HPF := hid (fun wx => place_is f frm 899 wx (by decide) (by decide) wf hf)
 have HPC := hid (fun wx => place_big c 1073741824 wx (by decide) (by decide) wc)
 rw [hC] at HPC
 obtain ⟨F, hF⟩ : ∃ F, 101 + f = F := ⟨_, rfl⟩
 have w1 : IntKind.i64.wrap (101 + f) = F := by rw [IntKind.wrap_i64]; omega
 have w2 : IntKind.i64.wrap (f + 101) = F := by rw [IntKind.wrap_i64]; omega
 have HFB := hid (show 101 ≤ F ∧ F ≤ 999 by omega)
 clear hT hE wn wf wc hf hC hfb hF
 go_enter Tryz.func3, Tryz.ntmps3
 go_wp2_with fail
 refine HO.out.mono ?_
 rintro e w1 ⟨nb, p, lv, sv, rfl, hn, hk, hB⟩
 have HTL : Hid (Tl w w1 nb (nt0 50 2) (fun _ => False)) := ⟨p, lv, sv, _, hn, hB, fun _ h => h.elim, hk⟩
 unfold ptrV
 clear hn hk hB HO
 go_wp2_with fail
 refine (HPF.out _).mono ?_
 rintro e w2 ⟨rfl, hw⟩
 rw [hw]
 clear hw
 go_upto_region 5 with fail
 have hz1 := heap_alloc_new w1 (.cells #[.int .i64 F] 3)
 have KZ : Hid (Keeps [] w1 (w1.alloc (.cells #[.int .i64 F] 3))) := (Keeps.refl _ _).alloc _
 obtain ⟨wZ, hwZ⟩ : ∃ x, x = w1.alloc (.cells #[.int .i64 F] 3) := ⟨_, rfl⟩
 rw [← hwZ] at hz1 KZ ⊢
 have hzz : wZ.heap.size = w1.heap.size + 1 := by rw [hwZ]; simp
 have HZ1 := hid hz1
 have HZZ := hid hzz
 have z0 : wZ.cell? ⟨w1.heap.size, 0, none⟩ = some (.int .i64 F) := cell_of_block hz1 0
 have zl : w1.heap.size < wZ.heap.size := by omega
 clear hwZ hz1 hzz
 go_cut [11] from 24 to 28 (fun v wx => ∃ mb gb : Nat, v = .pointer (some ⟨mb, 0, none⟩) ∧ Hid (Keeps [] wZ wx ∧ MsgBox wx mb F C gb 1 ∧ wx.heap[gb]? = some (.cells #[.int .u8 2] 5 (0, 0)) ∧ wZ.heap.size ≤ mb ∧ wZ.heap.size ≤ gb ∧ mb ≠ gb))
 case first =>
  refine PlanU.wp_region_tree (fun wx => wx.cell? ⟨w1.heap.size, 0, none⟩ = some (.int .i64 F)) 7 (.take 0 (.take 1 (.fork3 2 3 5 (.fork 3 5 (.take 4 (.step 5 (.step 6 .fin))) (.step 3 (.take 4 (.step 6 .fin)))) (.fork 2 5 (.take 4 (.step 5 (.step 6 .fin))) (.step 2 (.take 4 (.step 6 .fin)))) (.fork 2 3 (.step 3 (.take 4 (.step 6 .fin))) (.step 2 (.take 4 (.step 6 .fin))))))) (by kernel_rfl) (by as_aux_lemma => kernel_rfl) (by kernel_rfl) (fun _ _ _ _ _ h => h) ?_ (fun hS => ?_)
  (·go_simp)
  simp only [PlanU.pickT, List.append_eq, List.cons_append, List.nil_append, Plan.g1, Plan.g2, Option.getD_some, List.drop_succ_cons, List.drop_zero]
  iterate 2 (refine PlanU.takeT (v := ?_) (a' := ?_) (Plan.want_all (by rfl)) ?_ ?_ ?_; rotate_left 2; (· intro w' hS'; (try dsimp only at hS'); go_simp; try with_reducible rfl); (· simp only [Act.put, Plan.l1, Plan.l2, Plan.l3]; try with_reducible rfl))
  refine PlanU.fork3T ?_ ?_ ?_
  ·go_wp2_with fail
   refine (HPC.out _).mono ?_
   rintro e wq ⟨rfl, hw⟩
   rw [hw]
   clear hw wq
   go_wp2_with fail
   refine ⟨by go_simp, ?_⟩
   refine PlanU.forkT ?_ ?_
   ·go_wp2_with fail
    refine ⟨by go_simp, ?_⟩
    iterate 1 (refine PlanU.takeT (v := ?_) (a' := ?_) (Plan.want_all (by rfl)) ?_ ?_ ?_; rotate_left 2; (· intro w' hS'; (try dsimp only at hS'); go_simp; try with_reducible rfl); (· simp only [Act.put, Plan.l1, Plan.l2, Plan.l3]; try with_reducible rfl))
    refine PlanU.stepT ?_
    go_wp2_with fail
    refine ⟨by go_simp, ?_⟩
    refine PlanU.stepT ?_
    go_wp2_with fail
    refine ⟨by go_simp, ?_⟩
    refine PlanU.finT ?_
    go_wp2_with fail
    go_meet
    case rel =>
     first
      | exact ⟨wZ.heap.size + 1, wZ.heap.size, rfl, Keeps.K, new2K wZ _ _, old_alloc (heap_alloc_new wZ _), by omega, Nat.le_refl _, by omega⟩
      | exact ⟨wZ.heap.size, wZ.heap.size + 1, rfl, Keeps.K, old_alloc (heap_alloc_new wZ _), new2K wZ _ _, Nat.le_refl _, by omega, by omega⟩
      | fail
   ·go_wp2_with fail
    refine ⟨by go_simp, ?_⟩
    refine PlanU.stepT ?_
    go_wp2_with fail
    refine ⟨by go_simp, ?_⟩
    iterate 1 (refine PlanU.takeT (v := ?_) (a' := ?_) (Plan.want_all (by rfl)) ?_ ?_ ?_; rotate_left 2; (· intro w' hS'; (try dsimp only at hS'); go_simp; try with_reducible rfl); (· simp only [Act.put, Plan.l1, Plan.l2, Plan.l3]; try with_reducible rfl))
    refine PlanU.stepT ?_
    go_wp2_with fail
    refine ⟨by go_simp, ?_⟩
    refine PlanU.finT ?_
    go_wp2_with fail
    go_meet
    case rel =>
     first
      | exact ⟨wZ.heap.size + 1, wZ.heap.size, rfl, Keeps.K, new2K wZ _ _, old_alloc (heap_alloc_new wZ _), by omega, Nat.le_refl _, by omega⟩
      | exact ⟨wZ.heap.size, wZ.heap.size + 1, rfl, Keeps.K, old_alloc (heap_alloc_new wZ _), new2K wZ _ _, Nat.le_refl _, by omega, by omega⟩
      | fail
  ·go_wp2_with fail
   refine ⟨by go_simp, ?_⟩
   refine PlanU.forkT ?_ ?_
   ·go_wp2_with fail
    refine (HPC.out _).mono ?_
    rintro e wq ⟨rfl, hw⟩
    rw [hw]
    clear hw wq
    go_wp2_with fail
    refine ⟨by go_simp, ?_⟩
    iterate 1 (refine PlanU.takeT (v := ?_) (a' := ?_) (Plan.want_all (by rfl)) ?_ ?_ ?_; rotate_left 2; (· intro w' hS'; (try dsimp only at hS'); go_simp; try with_reducible rfl); (· simp only [Act.put, Plan.l1, Plan.l2, Plan.l3]; try with_reducible rfl))
    refine PlanU.stepT ?_
    go_wp2_with fail
    refine ⟨by go_simp, ?_⟩
    refine PlanU.stepT ?_
    go_wp2_with fail
    refine ⟨by go_simp, ?_⟩
    refine PlanU.finT ?_
    go_wp2_with fail
    go_meet
    case rel =>
     first
      | exact ⟨wZ.heap.size + 1, wZ.heap.size, rfl, Keeps.K, new2K wZ _ _, old_alloc (heap_alloc_new wZ _), by omega, Nat.le_refl _, by omega⟩
      | exact ⟨wZ.heap.size, wZ.heap.size + 1, rfl, Keeps.K, old_alloc (heap_alloc_new wZ _), new2K wZ _ _, Nat.le_refl _, by omega, by omega⟩
      | fail
   ·go_wp2_with fail
    refine ⟨by go_simp, ?_⟩
    refine PlanU.stepT ?_
    go_wp2_with fail
    refine (HPC.out _).mono ?_
    rintro e wq ⟨rfl, hw⟩
    rw [hw]
    clear hw wq
    go_wp2_with fail
    refine ⟨by go_simp, ?_⟩
    iterate 1 (refine PlanU.takeT (v := ?_) (a' := ?_) (Plan.want_all (by rfl)) ?_ ?_ ?_; rotate_left 2; (· intro w' hS'; (try dsimp only at hS'); go_simp; try with_reducible rfl); (· simp only [Act.put, Plan.l1, Plan.l2, Plan.l3]; try with_reducible rfl))
    refine PlanU.stepT ?_
    go_wp2_with fail
    refine ⟨by go_simp, ?_⟩
    refine PlanU.finT ?_
    go_wp2_with fail
    go_meet
    case rel =>
     first
      | exact ⟨wZ.heap.size + 1, wZ.heap.size, rfl, Keeps.K, new2K wZ _ _, old_alloc (heap_alloc_new wZ _), by omega, Nat.le_refl _, by omega⟩
      | exact ⟨wZ.heap.size, wZ.heap.size + 1, rfl, Keeps.K, old_alloc (heap_alloc_new wZ _), new2K wZ _ _, Nat.le_refl _, by omega, by omega⟩
      | fail
  ·go_wp2_with fail
   refine ⟨by go_simp, ?_⟩
   refine PlanU.forkT ?_ ?_
   ·go_wp2_with fail
    refine (HPC.out _).mono ?_
    rintro e wq ⟨rfl, hw⟩
    rw [hw]
    clear hw wq
    go_wp2_with fail
    refine ⟨by go_simp, ?_⟩
    refine PlanU.stepT ?_
    go_wp2_with fail
    refine ⟨by go_simp, ?_⟩
    iterate 1 (refine PlanU.takeT (v := ?_) (a' := ?_) (Plan.want_all (by rfl)) ?_ ?_ ?_; rotate_left 2; (· intro w' hS'; (try dsimp only at hS'); go_simp; try with_reducible rfl); (· simp only [Act.put, Plan.l1, Plan.l2, Plan.l3]; try with_reducible rfl))
    refine PlanU.stepT ?_
    go_wp2_with fail
    refine ⟨by go_simp, ?_⟩
    refine PlanU.finT ?_
    go_wp2_with fail
    go_meet
    case rel =>
     first
      | exact ⟨wZ.heap.size + 1, wZ.heap.size, rfl, Keeps.K, new2K wZ _ _, old_alloc (heap_alloc_new wZ _), by omega, Nat.le_refl _, by omega⟩
      | exact ⟨wZ.heap.size, wZ.heap.size + 1, rfl, Keeps.K, old_alloc (heap_alloc_new wZ _), new2K wZ _ _, Nat.le_refl _, by omega, by omega⟩
      | fail
   ·go_wp2_with fail
    refine ⟨by go_simp, ?_⟩
    refine PlanU.stepT ?_
    go_wp2_with fail
    refine (HPC.out _).mono ?_
    rintro e wq ⟨rfl, hw⟩
    rw [hw]
    clear hw wq
    go_wp2_with fail
    refine ⟨by go_simp, ?_⟩
    iterate 1 (refine PlanU.takeT (v := ?_) (a' := ?_) (Plan.want_all (by rfl)) ?_ ?_ ?_; rotate_left 2; (· intro w' hS'; (try dsimp only at hS'); go_simp; try with_reducible rfl); (· simp only [Act.put, Plan.l1, Plan.l2, Plan.l3]; try with_reducible rfl))
    refine PlanU.stepT ?_
    go_wp2_with fail
    refine ⟨by go_simp, ?_⟩
    refine PlanU.finT ?_
    go_wp2_with fail
    go_meet
    case rel =>
     first
      | exact ⟨wZ.heap.size + 1, wZ.heap.size, rfl, Keeps.K, new2K wZ _ _, old_alloc (heap_alloc_new wZ _), by omega, Nat.le_refl _, by omega⟩
      | exact ⟨wZ.heap.size, wZ.heap.size + 1, rfl, Keeps.K, old_alloc (heap_alloc_new wZ _), new2K wZ _ _, Nat.le_refl _, by omega, by omega⟩
      | fail
 case rest =>
  obtain ⟨mb, gb, rfl, hm⟩ := hcut
  have HM := hid hm.out
  clear hm
  have hmf : ∀ (fn : Fn) (first cap : Array Value) (w : World), (Instr.makeFunc fn first cap).run Tryz.prog w = .ok (.func fn first cap) w := fun _ _ _ _ => rfl
  have hbm := HM.out.2.1
  have hbg := HM.out.2.2.1
  have hml := (Array.getElem?_eq_some_iff.1 hbm).1
  have hgl := (Array.getElem?_eq_some_iff.1 hbg).1
  have hbf := (HM.out.1.block w1.heap.size (Array.getElem?_eq_some_iff.1 HZ1.out).1 (by simp)).trans HZ1.out
  have hfl := (Array.getElem?_eq_some_iff.1 hbf).1
  have HT0 : Hid (Tl w wc nb (nt0 50 2) (fun b => b = w1.heap.size ∨ b = mb ∨ b = gb)) := HTL.out.more (KZ.out.trans HM.out.1 (fun _ _ h => h)) (fun b hb => .inr (by
   have h1 := HM.out.2.2.2
   have h2 := HZZ.out
   rcases hb with rfl | rfl | rfl <;> omega))
  have HBM := hid hbm
  have HBG := hid hbg
  have HBF := hid hbf
  have b0 : wc.cell? ⟨mb, 0, none⟩ = some (.int .i64 6) := cell_of_block hbm 0
  have b1 : wc.cell? ⟨mb, 1, none⟩ = some (.int .i64 F) := cell_of_block hbm 1
  have b2 : wc.cell? ⟨mb, 2, none⟩ = some (.int .i64 2) := cell_of_block hbm 2
  have b3 : wc.cell? ⟨mb, 3, none⟩ = some (.int .i64 0) := cell_of_block hbm 3
  have b4 : wc.cell? ⟨mb, 4, none⟩ = some (.int .i64 0) := cell_of_block hbm 4
  have b5 : wc.cell? ⟨mb, 5, none⟩ = some (.int .i64 0) := cell_of_block hbm 5
  have b6 : wc.cell? ⟨mb, 6, none⟩ = some (.int .i64 C) := cell_of_block hbm 6
  have b7 : wc.cell? ⟨mb, 7, none⟩ = some (.bool false) := cell_of_block hbm 7
  have b8 : wc.cell? ⟨mb, 8, none⟩ = some (.slice none 0 0) := cell_of_block hbm 8
  have b9 : wc.cell? ⟨mb, 9, none⟩ = some (.slice (some ⟨gb, 0, none⟩) 1 1) := cell_of_block hbm 9
  clear hbm hbg hml hgl hbf hfl z0 zl
  go_wp2_with fail
  have h1 := HT0.out.ask HT.out.1 HT.out.2 2 F C [2] (nt0 50 2, [toldD (nt0 50 2) F C false 0 []]) (hearN_asked (nd := nt0 50 2) (f := F) (c := C) (data := [2]) rfl (by decide) HFB.out get_open nt0_w) (some ⟨gb, 0, none⟩) 1 (bytes_own HBG.out [2] rfl (by decide) (.inr (.inr rfl))) (.inl rfl)
  unfold msgV at h1
  refine Calls.mono h1 ?_
  clear h1
  rintro e w3 ⟨a3, q3, P3, rfl, ht3, hl3, hz3, hk3⟩
  have HK3 := hid hk3
  have hbm := hk3 mb (.inr (.inl rfl)) _ HBM.out
  have hbf := hk3 w1.heap.size (.inl rfl) _ HBF.out
  have HW1 := hid (tells1_any w3 P3 a3 q3 w1.heap.size mb (toldD (nt0 50 2) F C false 0 []) F C 0 hl3 (cell_of_block hbf 0) (cell_of_block hbm 6) rfl rfl rfl rfl rfl rfl)
  have HT3 := hid ht3
  clear ht3 hl3 hk3 hz3 hbm hbf b0 b1 b2 b3 b4 b5 b6 b7 b8 b9
  go_wp2_with fail
  refine HW1.out.mono ?_
  rintro e w4 ⟨rfl, hk4⟩
  have K4 := hid hk4
  clear hk4
  have h2 := (HT3.out.k K4.out).app
  unfold msgV at h2
  have HH2 := hid h2
  clear h2
  go_wp2_with fail
  refine HH2.out.mono ?_
  rintro e w5 ⟨a5, q5, P5, rfl, ht5, -, -, hk5⟩
  have up5 : ∀ b o, (b = w1.heap.size ∨ b = mb ∨ b = gb) → wc.heap[b]? = some o → w5.heap[b]? = some o := fun b o hb ho => hk5 b hb o ((K4.out.block b (Array.getElem?_eq_some_iff.1 (HK3.out b hb o ho)).1 (by simp)).trans (HK3.out b hb o ho))
  have hbm := up5 mb _ (.inr (.inl rfl)) HBM.out
  have HBM5 := hid hbm
  have HBG5 := hid (up5 gb _ (.inr (.inr rfl)) HBG.out)
  have HBF5 := hid (up5 w1.heap.size _ (.inl rfl) HBF.out)
  have HT5 := hid ht5
  have b0 : w5.cell? ⟨mb, 0, none⟩ = some (.int .i64 6) := cell_of_block hbm 0
  have b1 : w5.cell? ⟨mb, 1, none⟩ = some (.int .i64 F) := cell_of_block hbm 1
  have b2 : w5.cell? ⟨mb, 2, none⟩ = some (.int .i64 2) := cell_of_block hbm 2
  have b3 : w5.cell? ⟨mb, 3, none⟩ = some (.int .i64 0) := cell_of_block hbm 3
  have b4 : w5.cell? ⟨mb, 4, none⟩ = some (.int .i64 0) := cell_of_block hbm 4
  have b5 : w5.cell? ⟨mb, 5, none⟩ = some (.int .i64 0) := cell_of_block hbm 5
  have b6 : w5.cell? ⟨mb, 6, none⟩ = some (.int .i64 C) := cell_of_block hbm 6
  have b7 : w5.cell? ⟨mb, 7, none⟩ = some (.bool false) := cell_of_block hbm 7
  have b8 : w5.cell? ⟨mb, 8, none⟩ = some (.slice none 0 0) := cell_of_block hbm 8
  have b9 : w5.cell? ⟨mb, 9, none⟩ = some (.slice (some ⟨gb, 0, none⟩) 1 1) := cell_of_block hbm 9
  have h3 := HT5.out.ask HT.out.1 HT.out.2 2 F C [2] (nt1, [toldD nt1 F C false 3 []]) (by
   have h := hearN_asked (nd := nt1) (f := F) (c := C) (data := [2]) nt1_f.1 (by rw [nt1_f.2.1]; decide) HFB.out get_open nt1_w
   rw [nt1_f.2.2.1, nt1_f.2.2.2.2] at h
   exact h) (some ⟨gb, 0, none⟩) 1 (bytes_own HBG5.out [2] rfl (by decide) (.inr (.inr rfl))) (.inl rfl)
  unfold msgV at h3
  have HH3 := hid h3
  clear h3 ht5 hk5 up5 hbm
  go_wp2_with fail
  refine HH3.out.mono ?_
  rintro e w6 ⟨a6, q6, P6, rfl, ht6, hl6, -, hk6⟩
  have hbm := hk6 mb (.inr (.inl rfl)) _ HBM5.out
  have HBM6 := hid hbm
  have HW6 := hid (tells1_any w6 P6 a6 q6 w1.heap.size mb (toldD nt1 F C false 3 []) F C 3 hl6 (cell_of_block (hk6 w1.heap.size (.inl rfl) _ HBF5.out) 0) (cell_of_block hbm 6) rfl rfl nt1_f.2.2.2.2 rfl rfl rfl)
  have HT6 := hid ht6
  clear ht6 hl6 hk6 hbm b0 b1 b2 b3 b4 b5 b6 b7 b8 b9
  go_wp2_with fail
  refine HW6.out.mono ?_
  rintro e w7 ⟨rfl, hk7⟩
  have K7 := hid hk7
  have HT7 := hid (HT6.out.k hk7)
  have HBM7 := hid ((hk7.block mb (Array.getElem?_eq_some_iff.1 HBM6.out).1 (by simp)).trans HBM6.out)
  have HLD : Hid (Calls Tryz.prog 8 #[.pointer (some ⟨nb, 0, none⟩)] w7 fun e w' => e = .returned (.int .i64 3) ∧ w' = w7) := by
   obtain ⟨p7, lv7, sv7, fv7, hn7, -⟩ := HT7.out
   have h := noLeader_any w7 p7 nb nt1 lv7 sv7 fv7 hn7
   rw [nt1_f.2.2.1] at h
   exact h
  clear hk7
  go_wp2_with fail
  refine HLD.out.mono ?_
  rintro e w8 ⟨rfl, hw⟩
  rw [hw]
  clear hw
  have y9 : w7.cell? ⟨mb, 9, none⟩ = some (.slice (some ⟨gb, 0, none⟩) 1 1) := cell_of_block HBM7.out 9
  have f9 : w7.frozen? ⟨mb, 9, none⟩ = false := frozen_of_row _ _ 9 _ _ HBM7.out
  have l9 : mb < w7.heap.size := (Array.getElem?_eq_some_iff.1 HBM7.out).1
  have n9 : mb ≠ w7.heap.size := by omega
  go_upto_region 13 with fail
  have kD : Keeps [mb] w7 ((w7.setCell ⟨mb, 9, none⟩ (.slice (some ⟨w7.heap.size, 0, none⟩) 3 3)).alloc (.cells #[.int .u8 1, .int .u8 2, .int .u8 3] 5)) := ((Keeps.refl _ _).setCell (.inl (by simp)) _).alloc _
  have k7 : Keeps [mb] w7 (w7.setCell ⟨mb, 9, none⟩ (.slice (some ⟨w7.heap.size, 0, none⟩) 3 3)) := (Keeps.refl _ _).setCell (.inl (by simp)) _
  have hbmD : MsgBox ((w7.setCell ⟨mb, 9, none⟩ (.slice (some ⟨w7.heap.size, 0, none⟩) 3 3)).alloc (.cells #[.int .u8 1, .int .u8 2, .int .u8 3] 5)) mb F C w7.heap.size 3 := by
   have h := old_alloc (o2 := .cells #[.int .u8 1, .int .u8 2, .int .u8 3] 5) (heap_setCell_same w7 mb 9 _ _ (.slice (some ⟨w7.heap.size, 0, none⟩) 3 3) HBM7.out)
   exact h
  have hbgD := heap_alloc_new (w7.setCell ⟨mb, 9, none⟩ (.slice (some ⟨w7.heap.size, 0, none⟩) 3 3)) (.cells #[.int .u8 1, .int .u8 2, .int .u8 3] 5)
  simp only [World.size_setCell] at hbgD
  have htD := ((HT7.out.own k7 (fun b hb => by simp at hb; exact .inr (.inl hb))).more (keep' := fun b => b = mb ∨ b = w7.heap.size) (((Keeps.refl _ _).alloc (.cells #[.int .u8 1, .int .u8 2, .int .u8 3] 5))) (fun b hb => by
   rcases hb with rfl | rfl
   ·exact .inl (.inr (.inl rfl))
   ·exact .inr ⟨by simp, by simp⟩))
  obtain ⟨wD, hwD⟩ : ∃ x, x = ((w7.setCell ⟨mb, 9, none⟩ (.slice (some ⟨w7.heap.size, 0, none⟩) 3 3)).alloc (.cells #[.int .u8 1, .int .u8 2, .int .u8 3] 5)) := ⟨_, rfl⟩
  rw [← hwD] at kD hbmD hbgD htD ⊢
  have HBGD := hid hbgD
  have HTD := hid htD
  have b0 : wD.cell? ⟨mb, 0, none⟩ = some (.int .i64 6) := cell_of_block hbmD 0
  have b1 : wD.cell? ⟨mb, 1, none⟩ = some (.int .i64 F) := cell_of_block hbmD 1
  have b2 : wD.cell? ⟨mb, 2, none⟩ = some (.int .i64 2) := cell_of_block hbmD 2
  have b3 : wD.cell? ⟨mb, 3, none⟩ = some (.int .i64 0) := cell_of_block hbmD 3
  have b4 : wD.cell? ⟨mb, 4, none⟩ = some (.int .i64 0) := cell_of_block hbmD 4
  have b5 : wD.cell? ⟨mb, 5, none⟩ = some (.int .i64 0) := cell_of_block hbmD 5
  have b6 : wD.cell? ⟨mb, 6, none⟩ = some (.int .i64 C) := cell_of_block hbmD 6
  have b7 : wD.cell? ⟨mb, 7, none⟩ = some (.bool false) := cell_of_block hbmD 7
  have b8 : wD.cell? ⟨mb, 8, none⟩ = some (.slice none 0 0) := cell_of_block hbmD 8
  have b9 : wD.cell? ⟨mb, 9, none⟩ = some (.slice (some ⟨w7.heap.size, 0, none⟩) 3 3) := cell_of_block hbmD 9
  have h4 := HTD.out.ask HT.out.1 HT.out.2 2 F C [1, 2, 3] (nt1, []) (by
   have h := hearN_wrong (nd := nt1) (f := F) (c := C) (data := [1, 2, 3]) nt1_f.1 get_none nt1_w
   rw [nt1_f.2.2.2.2] at h
   exact h) (some ⟨w7.heap.size, 0, none⟩) 3 (bytes_own HBGD.out [1, 2, 3] rfl (by decide) (.inr rfl)) (.inr rfl)
  unfold msgV at h4
  have HH4 := hid h4
  clear h4 kD k7 hbmD hbgD htD hwD y9 f9 l9 n9
  go_wp2_with fail
  refine HH4.out.mono ?_
  rintro e w9 ⟨a9, q9, P9, rfl, ht9, -, -, -⟩
  have HT9 := hid ht9
  have HTM : Hid (Calls Tryz.prog 9 #[.pointer (some ⟨nb, 0, none⟩)] w9 fun e w' => e = .returned (.int .i64 4) ∧ w' = w9) := by
   obtain ⟨p7, lv7, sv7, fv7, hn7, -⟩ := ht9
   have h := noTerm_any w9 p7 nb nt1 lv7 sv7 fv7 hn7
   rw [nt1_f.2.2.2.1] at h
   exact h
  have hW9 := ht9.keeps
  have HAW := hid (awake23_any w9 (HT.out.1.k hW9) (HT.out.2.k hW9))
  have HW9 := hid hW9
  clear ht9 hW9
  rw [show ((nt1, ([] : List MsgD)).2.length) = 0 from rfl]
  go_wp2_with fail
  refine HTM.out.mono ?_
  rintro e wt ⟨rfl, hw⟩
  rw [hw]
  clear hw
  go_wp2_with fail
  refine HAW.out.mono ?_
  rintro e wu ⟨rfl, hku⟩
  have KU := hid hku
  clear hku
  go_wp2_with fail
  go_ret
  exact ⟨rfl, HW9.out.trans KU.out (fun _ _ h => h)⟩
end Go.Proofs.YtgjiahilbmeaeaaGreatDoor