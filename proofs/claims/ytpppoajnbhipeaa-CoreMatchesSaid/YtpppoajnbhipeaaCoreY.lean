/- The votes that are asked for: the closure of Tick, others with it. -/
import Derived.Test.YtpppoajnbhipeaaCoreX
import Derived.Test.YtpppoajnbhipeaaCoreC
namespace Go.Proofs.Ytpppoajnbhipeaa
open Go Go.RowKit

set_option maxRecDepth 100000 in
set_option maxHeartbeats 1600000 in
theorem tick1_any (w : World) (B n pc pt : Nat) (c : CoreD) (lv sv : Value) (to tm : Int) (h : CoreAt w B n c lv sv) (hc : w.cell? ⟨pc, 0, none⟩ = some (.pointer (some ⟨n, 0, none⟩))) (ht : w.cell? ⟨pt, 0, none⟩ = some (.int .i64 tm)) :
    Calls Try.prog 64 #[.int .i64 to, .pointer (some ⟨pc, 0, none⟩), .pointer (some ⟨pt, 0, none⟩)] w fun x w' =>
      x = .returned (.agg #[.int .i64 1, .int .i64 c.id, .int .i64 to, .int .i64 c.term, .int .i64 (lastD c), .int .i64 tm, .int .i64 0, .bool false, .slice none 0 0, .slice none 0 0]) ∧ Keeps [] w w' := by
  have H := hid h
  have h9 : w.cell? ⟨n, 9, none⟩ = some (.int .i64 c.id) := h.blk.cell 9
  have h10 : w.cell? ⟨n, 10, none⟩ = some (.int .i64 c.term) := h.blk.cell 10
  have hlt := h.blk.lt
  have hpc := World.block_lt_of_cell? _ _ hc
  have hpt := World.block_lt_of_cell? _ _ ht
  simp at hpc hpt
  clear h
  go_enter Try.func64, Try.ntmps64
  go_wp2_with fail
  refine Plan.wp_region_plan (fun wx => wx.cell? ⟨pc, 0, none⟩ = some (.pointer (some ⟨n, 0, none⟩)) ∧ wx.cell? ⟨pt, 0, none⟩ = some (.int .i64 tm)) 6 [(true, 0), (true, 1), (true, 3), (true, 5), (false, 2), (true, 4)] (by kernel_rfl) (by as_aux_lemma => kernel_rfl) (by kernel_rfl) (fun _ _ _ _ _ h => h) ?_ (fun hS => ?_)
  (· go_simp)
  simp only [Plan.pick, List.append_eq, List.cons_append, List.nil_append, List.getElem?_cons_zero, List.getElem?_cons_succ, Option.getD_some, List.drop_succ_cons, List.drop_zero]
  iterate 4 (first | (refine Plan.take (v := ?_) (a' := ?_) (Plan.want_all (by rfl)) ?_ ?_ ?_; rotate_left 2; (· (intro w' hS'; (try dsimp only at hS'); go_simp; try with_reducible rfl)); (· (simp only [Act.put, List.setIfInBounds_toArray, List.set_cons_zero, List.set_cons_succ]; try with_reducible rfl))) | (refine Plan.take (v := ?_) (a' := ?_) (Plan.want_yes (by rfl) (by rfl) (by rfl) (by rfl)) ?_ ?_ ?_; rotate_left 2; (· (intro w' hS'; (try dsimp only at hS'); go_simp; try with_reducible rfl)); (· (simp only [Act.put, List.setIfInBounds_toArray, List.set_cons_zero, List.set_cons_succ]; try with_reducible rfl))) | (refine Plan.pass (a' := ?_) (Plan.want_no (by rfl) (by rfl) (by rfl) (by rfl)) ?_ ?_; rotate_left 1; (· (simp only [Act.put, List.setIfInBounds_toArray, List.set_cons_zero, List.set_cons_succ]; try with_reducible rfl))) | (refine Plan.pass (a' := ?_) (Plan.want_un (by rfl) (by rfl) (by rfl) (by rfl)) ?_ ?_; rotate_left 1; (· (simp only [Act.put, List.setIfInBounds_toArray, List.set_cons_zero, List.set_cons_succ]; try with_reducible rfl))) | fail)
  refine Plan.step ?_
  go_wp2_with fail
  refine (cLast_any _ B n c lv sv (H.out.k (((Keeps.refl [] w).alloc _).drew))).mono ?_
  rintro e w' ⟨rfl, k, rfl⟩
  go_wp2_with fail
  refine ⟨?_, ?_⟩
  (· go_simp)
  iterate 1 (first | (refine Plan.take (v := ?_) (a' := ?_) (Plan.want_all (by rfl)) ?_ ?_ ?_; rotate_left 2; (· (intro w' hS'; (try dsimp only at hS'); go_simp; try with_reducible rfl)); (· (simp only [Act.put, List.setIfInBounds_toArray, List.set_cons_zero, List.set_cons_succ]; try with_reducible rfl))) | (refine Plan.take (v := ?_) (a' := ?_) (Plan.want_yes (by rfl) (by rfl) (by rfl) (by rfl)) ?_ ?_ ?_; rotate_left 2; (· (intro w' hS'; (try dsimp only at hS'); go_simp; try with_reducible rfl)); (· (simp only [Act.put, List.setIfInBounds_toArray, List.set_cons_zero, List.set_cons_succ]; try with_reducible rfl))) | (refine Plan.pass (a' := ?_) (Plan.want_no (by rfl) (by rfl) (by rfl) (by rfl)) ?_ ?_; rotate_left 1; (· (simp only [Act.put, List.setIfInBounds_toArray, List.set_cons_zero, List.set_cons_succ]; try with_reducible rfl))) | (refine Plan.pass (a' := ?_) (Plan.want_un (by rfl) (by rfl) (by rfl) (by rfl)) ?_ ?_; rotate_left 1; (· (simp only [Act.put, List.setIfInBounds_toArray, List.set_cons_zero, List.set_cons_succ]; try with_reducible rfl))) | fail)
  refine Plan.fin ?_
  go_wp2_with fail
  refine (says_any _ n c.id c.term _ _ _ _ _ _ _ _ _ _ _ _ _ _ _ ?_ ?_ ?_).mono ?_
  (· go_simp)
  (· go_simp)
  (· simp; omega)
  rintro e w2 ⟨rfl, hk⟩
  obtain ⟨⟨c0, c1, c2, c3, c4, c5, c6, c7, c8, c9⟩, f3⟩ := blk10 ((hk.block w.heap.size (by simp) (by simp)).trans (heap_alloc_new w _))
  have HK := hid hk
  clear hk
  go_wp2_with fail
  refine bodyPost_ret (v := .agg #[.int .i64 1, .int .i64 c.id, .int .i64 to, .int .i64 c.term, .int .i64 (lastD c), .int .i64 tm, .int .i64 0, .bool false, .slice none 0 0, .slice none 0 0]) (by simp [results, Try.results64, go_sem, c0, c1, c2, c3, c4, c5, c6, c7, c8, c9]) rfl ⟨rfl, ?_⟩
  have K3 : Keeps [] w w2 := (((Keeps.refl [] w).alloc _).drewN _).trans HK.out (fun _ _ h => h)
  (repeat (first | (with_reducible exact Keeps.refl _ _) | (with_reducible assumption) | ((with_reducible refine Keeps.setCell ?_ ?_ _); rotate_left 1; (· first | (refine .inl ?_; simp; done) | (refine .inr ?_; first | exact Nat.le_refl _ | (simp; done) | (simp; omega) | omega))) | (with_reducible refine Keeps.alloc ?_ _) | (with_reducible refine Keeps.drewN ?_ _) | (with_reducible refine Keeps.drew ?_)))

/-- Messages in new memory. -/
def FreshMsgs (w w' : World) (v : Value) (l : List MsgD) : Prop := OwnAt msgL 40 w' w.heap.size (fun b => w.heap.size ≤ b ∧ b ∉ ownB v) v l
def MsgsPost (l : List MsgD) (w : World) (e : Ending) (w' : World) : Prop := ∃ a q, e = .returned (.slice a l.length q) ∧ FreshMsgs w w' (.slice a l.length q) l ∧ Keeps [] w w'

theorem othersTo_skip {id : Int} {k : Nat} (h : ((k : Nat) : Int) + 1 = id) : othersTo id (k + 1) = othersTo id k := by
  rw [othersTo, if_pos (by omega)]
theorem othersTo_take {id : Int} {k : Nat} (h : ¬ ((k : Nat) : Int) + 1 = id) : othersTo id (k + 1) = othersTo id k ++ [(k : Int) + 1] := by
  rw [othersTo, if_neg (by omega)]
  simp
theorem othersTo_len (id : Int) : ∀ k, (othersTo id k).length ≤ k
  | 0 => Nat.le_refl _
  | k + 1 => by
    have := othersTo_len id k
    unfold othersTo
    split
    · omega
    · simp; omega

def votMsg (c : CoreD) (tm to : Int) : MsgD := { kind := 1, frm := c.id, to := to, term := c.term, a := lastD c, b := tm, c := 0, ok := false, entries := [], data := [] }

set_option maxRecDepth 100000 in
set_option maxHeartbeats 1600000 in
theorem others_vote (w : World) (B n pc pt : Nat) (c : CoreD) (lv sv : Value) (tm : Int) (h : CoreAt w B n c lv sv) (hc : w.cell? ⟨pc, 0, none⟩ = some (.pointer (some ⟨n, 0, none⟩))) (ht : w.cell? ⟨pt, 0, none⟩ = some (.int .i64 tm)) :
    Calls Try.prog 62 #[.pointer (some ⟨n, 0, none⟩), .func (.func 64) #[] #[.pointer (some ⟨pc, 0, none⟩), .pointer (some ⟨pt, 0, none⟩)]] w (MsgsPost ((othersTo c.id c.conf.nodes.toNat).map (votMsg c tm)) w) := by
  obtain ⟨it, hi0, hz0, hz1, hz2⟩ := info_parts Try.infoMsg
  have hm := (ConfD.may_iff c.conf).1 h.ok.may
  have h0 : w.cell? ⟨n, 0, none⟩ = some (.int .i64 c.conf.nodes) := h.blk.cell 0
  have h9 : w.cell? ⟨n, 9, none⟩ = some (.int .i64 c.id) := h.blk.cell 9
  have n1 := hm.1.1
  have n2 := hm.1.2
  have H := hid h
  have HC := hid hc
  have HT := hid ht
  have HN : Hid ((c.conf.nodes.toNat : Int) = c.conf.nodes) := by show _ = _; omega
  clear hm h hc ht
  go_enter Try.func62, Try.ntmps62
  go_wp2_with fail
  go_step3
  go_wp2_with fail
  go_step3
  go_wp2_with fail
  go_loopw [5, 6] (fun v t wr => ∃ (k m : Nat) (a : Option Addr) (q : Nat), k ≤ c.conf.nodes.toNat ∧ m ≤ k ∧ v = .slice a m q ∧ t = .int .i64 ((k : Int) + 1) ∧ Hid ((othersTo c.id k).length = m ∧ FreshMsgs w wr (.slice a m q) ((othersTo c.id k).map (votMsg c tm)) ∧ Keeps [] w wr)) (fun _ t _ => (c.conf.nodes + 1 - intOf t).toNat)
  case atStart => exact ⟨0, 0, none, 0, Nat.zero_le _, Nat.le_refl _, rfl, rfl, rfl, OwnAt.nil _ _ _ _, Keeps.refl [] w⟩
  case round =>
    obtain ⟨k, m, a, q, hk, hmk, rfl, rfl, HW⟩ := hrel
    have i0 : (0 : Int) ≤ (k : Int) := Int.natCast_nonneg _
    have x0 := HW.out.2.2.cellSome h0 (by simp)
    have x9 := HW.out.2.2.cellSome h9 (by simp)
    by_cases hlt : k < c.conf.nodes.toNat
    · have hle : (k : Int) + 1 ≤ c.conf.nodes := by have := HN.out; omega
      by_cases hid' : (k : Int) + 1 = c.id
      · have HS := hid (othersTo_skip hid')
        have hb : ((k : Int) + 1 == c.id) = true := by simpa using hid'
        clear hid'
        go_wp2_with fail
        go_roundw
        case rel => exact ⟨k + 1, m, a, q, by omega, by omega, rfl, by go_num, by rw [HS.out]; exact HW.out⟩
        case measure => simp [intOf]; omega
      · have HS := hid (othersTo_take hid')
        have hb : ((k : Int) + 1 == c.id) = false := by simpa using hid'
        clear hid'
        have y1 := HW.out.2.2.cellSome HC.out (by simp)
        have y2 := HW.out.2.2.cellSome HT.out (by simp)
        have Y1 := hid y1
        have Y2 := hid y2
        clear y1 y2
        have HTL : Hid (((othersTo c.id k).map (votMsg c tm)).length = m) := by show _ = _; rw [List.length_map]; exact HW.out.1
        have HZ : Hid (w.heap.size ≤ wr.heap.size) := HW.out.2.2.size
        have hm7 : m ≤ 7 := by omega
        go_wp2_with fail
        refine (tick1_any wr B n pc pt c lv sv _ tm (H.out.k HW.out.2.2) Y1.out Y2.out).mono ?_
        rintro e w3 ⟨rfl, hk3⟩
        have K3 := hid hk3
        have HOW : Hid (OwnAt msgL 40 w3 w.heap.size (fun b => w.heap.size ≤ b ∧ b ∉ ownB (.slice a m q)) (.slice a m q) ((othersTo c.id k).map (votMsg c tm))) := OwnAt.k HW.out.2.1 hk3
        clear hk3
        go_wp2_with (at_builtin; go_must (refine wpList_append_off (L := msgL) (PB := fun _ => False) _ (by rfl) _ _ _ (by rfl) w.heap.size 40 it _ 112 Try.underlying36 hi0 hz0 hz1 hz2 rfl (R := fun b => w.heap.size ≤ b) (.slice a m q) (by rfl) ((othersTo c.id k).map (votMsg c tm)) [votMsg c tm ((k : Int) + 1)] m HTL.out [[.int .i64 1, .int .i64 c.id, .int .i64 ((k : Int) + 1), .int .i64 c.term, .int .i64 (lastD c), .int .i64 tm, .int .i64 0, .bool false, .slice none 0 0, .slice none 0 0]] (HOW.out.k ((Keeps.refl [] _).alloc _)) (.slice _ _ _) (by rfl) 1 rfl (ElemsAt.one1 ⟨_, _, rfl, ListAt.nil _ _ _ _, BytesAt.nil _ _ _ _⟩) (Reads.one1 (heap_alloc_new _ _) rfl) (by omega) (le_maxLen (by omega)) (by exact Nat.le_trans HZ.out (Nat.le_trans K3.out.size ((Keeps.refl [] _).alloc _).size)) (fun b _ hb => hb.elim) ?_; intro a4 q4 w4 ho4 hk4 hv4))
        go_roundw
        case rel =>
          refine ⟨k + 1, m + 1, a4, q4, by omega, by omega, rfl, by go_num, ?_, ?_, ?_⟩
          · rw [HS.out]; simp [HW.out.1]
          · rw [HS.out, List.map_append]; exact ho4.out
          · refine (HW.out.2.2.trans K3.out (fun _ _ h => h)).trans (((Keeps.refl _ _).alloc _).trans hk4.out (fun _ _ h => h)) (fun b hb hb' => ?_)
            have := (OwnAt.ge HOW.out b hb').1
            omega
        case measure => simp [intOf]; omega
    · have hkn : k = c.conf.nodes.toNat := by omega
      have hge : c.conf.nodes < (k : Int) + 1 := by have := HN.out; omega
      have HK := hid hkn
      clear hkn
      go_wp2_with fail
      rw [Exit.noGoto_ret]
      go_ret
      have h1 := HW.out
      rw [HK.out] at h1
      refine ⟨a, q, ?_, ?_, h1.2.2⟩
      · rw [List.length_map, h1.1]; rfl
      · rw [List.length_map, h1.1]; exact h1.2.1

end Go.Proofs.Ytpppoajnbhipeaa
