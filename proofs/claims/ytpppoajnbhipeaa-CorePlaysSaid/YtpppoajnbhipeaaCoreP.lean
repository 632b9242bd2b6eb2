/- The laws' own helpers: small, copies of entries. -/
import Derived.Test.YtpppoajnbhipeaaQ03
namespace Go.Proofs.Ytpppoajnbhipeaa
open Go Go.RowKit

def smallEnts (l : List Ent) : Bool := l.all fun e => decide (e.data.length ≤ 300)
def smallD (m : MsgD) : Bool := decide (m.data.length ≤ 300) && decide (m.entries.length ≤ 12) && smallEnts m.entries
theorem smallD_yes {m : MsgD} (h : smallD m = true) : m.data.length ≤ 300 ∧ m.entries.length ≤ 12 ∧ ∀ e ∈ m.entries, e.data.length ≤ 300 := by
  simp only [smallD, smallEnts, Bool.and_eq_true, decide_eq_true_eq, List.all_eq_true] at h
  exact ⟨h.1.1, h.1.2, h.2⟩

set_option maxRecDepth 100000 in
set_option maxHeartbeats 1600000 in
theorem small_any (w : World) (m : MsgD) (ea da : Option Addr) (ec dc : Nat) (P : Nat → Prop) (hl : ListAt entL w P (.slice ea m.entries.length ec) m.entries) :
    Calls Try.prog 18 #[msgV m (.slice ea m.entries.length ec) (.slice da m.data.length dc)] w fun e w' => e = .returned (.bool (smallD m)) ∧ Keeps [] w w' := by
  unfold msgV
  have HLA := hid hl
  clear hl
  by_cases h1 : m.data.length ≤ 300
  · by_cases h2 : m.entries.length ≤ 12
    · have g1 : (m.data.length : Int) ≤ 300 := by omega
      have g2 : (m.entries.length : Int) ≤ 12 := by omega
      have HS : Hid (smallD m = smallEnts m.entries) := by show _ = _; simp [smallD, h1, h2]
      have HZ : Hid (∀ k, k < m.entries.length → ∃ e, m.entries[k]? = some e) := fun k hk => ⟨m.entries[k], List.getElem?_eq_getElem hk⟩
      clear h1 h2
      go_enter Try.func18, Try.ntmps18
      go_wp2_with fail
      go_loopw [3] (fun i wr => ∃ k : Nat, k ≤ m.entries.length ∧ i = .int .i64 k ∧ wr = w.alloc (.cells #[.int .i64 m.kind, .int .i64 m.frm, .int .i64 m.to, .int .i64 m.term, .int .i64 m.a, .int .i64 m.b, .int .i64 m.c, .bool m.ok, .slice ea m.entries.length ec, .slice da m.data.length dc] 40) ∧ Hid (smallEnts (m.entries.take k) = true)) (fun i _ => m.entries.length - (intOf i).toNat)
      case atStart => exact ⟨0, Nat.zero_le _, rfl, rfl, by first | exact trivial | rfl⟩
      case round =>
        obtain ⟨k, hk, rfl, rfl, HW⟩ := hrel
        have i0 : (0 : Int) ≤ (k : Int) := Int.natCast_nonneg _
        by_cases hlt' : k < m.entries.length
        · have i1 : (k : Int) < (m.entries.length : Int) := by omega
          obtain ⟨e, he⟩ := HZ.out k hlt'
          obtain ⟨g, off, cg, ha, hcg, hcm, hgl, hgP⟩ := HLA.out.addr (fun hn => by rw [hn] at hlt'; simp at hlt')
          simp at ha
          obtain ⟨ha, hcc⟩ := ha
          subst ha
          subst hcc
          obtain ⟨cs, ⟨v, rfl, hbv⟩, hcs⟩ := HLA.out.get he
          have y2 : w.cell? ⟨g, off + k * 3 + 2, none⟩ = some v := hcs 2 _ rfl
          obtain ⟨va, vc, rfl⟩ := hbv.form
          have HE : Hid (m.entries.take (k + 1) = m.entries.take k ++ [e]) := by show _ = _; rw [List.take_add_one, he]; rfl
          have HM : Hid (e ∈ m.entries) := List.mem_of_getElem? he
          clear hcs hbv he hcm hcg
          by_cases hq : e.data.length ≤ 300
          · have g3 : (e.data.length : Int) ≤ 300 := by omega
            have HN : Hid (smallEnts (m.entries.take (k + 1)) = true) := by
              have h1 := HW.out
              show _ = _
              rw [HE.out]
              simp only [smallEnts, List.all_append, Bool.and_eq_true] at h1 ⊢
              exact ⟨h1, by simp [hq]⟩
            clear hq
            go_wp2_with fail
            go_roundw
            case rel => exact ⟨k + 1, by omega, by go_num, by first | exact trivial | rfl, HN.out⟩
            case measure => simp [intOf]; omega
          · have g3 : 300 < (e.data.length : Int) := by omega
            have HN : Hid (smallD m = false) := by
              show _ = _
              rw [HS.out]
              simp only [smallEnts, List.all_eq_false]
              exact ⟨e, HM.out, by simpa using hq⟩
            clear hq
            go_wp2_with fail
            go_ret
            exact ⟨ret_bool HN.out.symm, by exact Keeps.K⟩
        · have hkn : k = m.entries.length := by omega
          have HF : Hid (smallD m = true) := by
            have h2 := HW.out
            rw [hkn, List.take_of_length_le (Nat.le_refl _)] at h2
            show _ = _
            rw [HS.out, h2]
          have hge : (m.entries.length : Int) ≤ (k : Int) := by omega
          clear hkn
          go_wp2_with fail
          go_ret
          exact ⟨ret_bool HF.out.symm, by exact Keeps.K⟩
    · have g1 : (m.data.length : Int) ≤ 300 := by omega
      have g2 : 12 < (m.entries.length : Int) := by omega
      have HS : Hid (smallD m = false) := by show _ = _; simp [smallD, h2]
      clear h1 h2
      go_enter Try.func18, Try.ntmps18
      go_wp2_with fail
      go_ret
      exact ⟨ret_bool HS.out.symm, by exact Keeps.K⟩
  · have g1 : 300 < (m.data.length : Int) := by omega
    have HS : Hid (smallD m = false) := by show _ = _; simp [smallD, h1]
    clear h1
    go_enter Try.func18, Try.ntmps18
    go_wp2_with fail
    go_ret
    exact ⟨ret_bool HS.out.symm, by exact Keeps.K⟩

set_option maxRecDepth 100000 in
set_option maxHeartbeats 1600000 in
theorem lEntries_any (w : World) (l : List Ent) (a0 : Option Addr) (c0 : Nat) (P : Nat → Prop) (hl : ListAt entL w P (.slice a0 l.length c0) l) (hd : ∀ e ∈ l, e.data.length ≤ 1000000) (hn : l.length ≤ 100000) :
    Calls Try.prog 20 #[.slice a0 l.length c0] w (FromPost l w) := by
  obtain ⟨it, hi0, hz0, hz1, hz2⟩ := info_parts Try.infoEnt
  have HLA := hid hl
  have HD := hid hd
  have HZ : Hid (∀ k, k < l.length → ∃ e, l[k]? = some e) := fun k hk => ⟨l[k], List.getElem?_eq_getElem hk⟩
  clear hl hd
  go_enter Try.func20, Try.ntmps20
  go_wp2_with fail
  go_loopw [3, 4] (fun v i wr => ∃ (k : Nat) (a : Option Addr) (q : Nat), k ≤ l.length ∧ v = .slice a k q ∧ i = .int .i64 k ∧ Hid (FreshEnts w wr (.slice a k q) (l.take k) ∧ Keeps [] w wr)) (fun _ i _ => l.length - (intOf i).toNat)
  case atStart => exact ⟨0, none, 0, Nat.zero_le _, rfl, rfl, OwnAt.nil _ _ _ _, Keeps.refl [] w⟩
  case round =>
    obtain ⟨k, a, q, hk, rfl, rfl, HW⟩ := hrel
    have i0 : (0 : Int) ≤ (k : Int) := Int.natCast_nonneg _
    by_cases hlt : k < l.length
    · have i1 : (k : Int) < (l.length : Int) := by omega
      obtain ⟨e, he⟩ := HZ.out k hlt
      obtain ⟨g, off, cg, ha, hcg, hcm, hgl, hgP⟩ := (HLA.out.k HW.out.2).addr (fun hn => by rw [hn] at hlt; simp at hlt)
      simp at ha
      obtain ⟨ha, hcc⟩ := ha
      subst ha
      subst hcc
      obtain ⟨cs, ⟨v, rfl, hbv⟩, hcs⟩ := (HLA.out.k HW.out.2).get he
      have y0 : wr.cell? ⟨g, off + k * 3, none⟩ = some (.int .i64 e.term) := hcs 0 _ rfl
      have y1 : wr.cell? ⟨g, off + k * 3 + 1, none⟩ = some (.bool e.cmd) := hcs 1 _ rfl
      have y2 : wr.cell? ⟨g, off + k * 3 + 2, none⟩ = some v := hcs 2 _ rfl
      obtain ⟨va, vc, rfl⟩ := hbv.form
      have XR := hid hbv.1
      have HDL : e.data.length ≤ 1000000 := HD.out e (List.mem_of_getElem? he)
      have HT : Hid (l.take (k + 1) = l.take k ++ [e]) := by show _ = _; rw [List.take_add_one, he]; rfl
      have HTL : Hid ((l.take k).length = k) := by show _ = _; simp; omega
      clear hcs hbv he hcm hcg
      go_wp2_with fail
      refine (lawBytes_any _ e.data _ (XR.out.keeps ((Keeps.refl [] wr).alloc _) (fun _ _ h => by cases h)) (by omega)).mono ?_
      rintro z w3 ⟨a3, q3, rfl, ho, hk3⟩
      obtain ⟨⟨b0, b1, b2⟩, f3⟩ := blk3 ((hk3.block wr.heap.size (by simp) (by simp)).trans (heap_alloc_new wr _))
      have K3 : Hid (Keeps [] wr w3) := ((Keeps.refl [] wr).alloc _).trans hk3 (fun _ _ h => h)
      have hz : wr.heap.size < w3.heap.size := World.block_lt_of_cell? _ _ b0
      have HOW : Hid (OwnAt entL 59 w3 w.heap.size (fun b => w.heap.size ≤ b ∧ b ∉ ownB (.slice a k q)) (.slice a k q) (l.take k)) := OwnAt.k HW.out.1 K3.out
      have HBB : Hid (∀ b, wr.heap.size ≤ b → w.heap.size ≤ b ∧ b ∉ ownB (.slice a k q)) := fun b hb => ⟨Nat.le_trans HW.out.2.size hb, fun hb' => by have := (OwnAt.ge HW.out.1 b hb').2; omega⟩
      have HEL : Hid (∀ wx, Keeps [wr.heap.size] w3 wx → entL.at_ wx (fun b => wr.heap.size < b) [.int .i64 e.term, .bool e.cmd, .slice a3 e.data.length q3] e) := fun wx kx => ⟨_, rfl, BytesAt.keep (P := fun b => wr.heap.size < b) (BytesAt.ofOwn ho rfl (fun b hb _ => by simp at hb; omega)) kx (fun b hb hb' => by simp at hb'; omega)⟩
      have HZ3 : Hid (w.heap.size ≤ w3.heap.size) := Nat.le_trans HW.out.2.size K3.out.size
      have HO4 : Hid (∀ wx, Keeps [wr.heap.size] w3 wx → OwnAt entL 59 wx w.heap.size (fun b => w.heap.size ≤ b ∧ b ∉ ownB (.slice a k q)) (.slice a k q) (l.take k)) := fun wx kx =>
        (((OwnAt.mono (P' := fun b => (w.heap.size ≤ b ∧ b ∉ ownB (.slice a k q)) ∧ b < wr.heap.size) HW.out.1 (fun b h1 h2 => ⟨h2, h1⟩)).k K3.out).keep kx (fun b hb hb' => by have := (OwnAt.ge HW.out.1 b hb).2; simp at hb'; omega) (fun b hb hb' => by simp at hb'; omega)).mono (fun b _ h => h.1)
      have HK4 : Hid (∀ wx, Keeps [wr.heap.size] w3 wx → Keeps [] w wx) := fun wx kx => (HW.out.2.trans K3.out (fun _ _ h => h)).trans kx (fun b hb hb' => by simp at hb'; have := HW.out.2.size; omega)
      have HOWB : Hid (∀ b, b ∈ ownB (.slice a k q) → w.heap.size ≤ b) := fun b hb => (OwnAt.ge HW.out.1 b hb).1
      have HRW : Hid (((w3.setCell ⟨wr.heap.size, 2, none⟩ (.slice a3 e.data.length q3)).alloc (.cells #[.int .i64 e.term, .bool e.cmd, .slice a3 e.data.length q3] 59)).heap[w3.heap.size]? = some (.cells #[.int .i64 e.term, .bool e.cmd, .slice a3 e.data.length q3] 59 (0, 0))) := by
        have := heap_alloc_new (w3.setCell ⟨wr.heap.size, 2, none⟩ (.slice a3 e.data.length q3)) (.cells #[.int .i64 e.term, .bool e.cmd, .slice a3 e.data.length q3] 59)
        rw [show (w3.setCell ⟨wr.heap.size, 2, none⟩ (.slice a3 e.data.length q3)).heap.size = w3.heap.size by simp] at this
        exact this
      clear ho hk3
      go_wp2_with (at_builtin; go_must (refine wpList_append_off (L := entL) (PB := fun b => wr.heap.size < b) _ (by rfl) _ _ _ (by rfl) w.heap.size 59 it _ 40 Try.underlying35 hi0 hz0 hz1 hz2 rfl (R := fun b => w.heap.size ≤ b) (.slice a k q) (by rfl) (l.take k) [e] k HTL.out [[.int .i64 e.term, .bool e.cmd, .slice a3 e.data.length q3]] (HO4.out _ (((Keeps.refl _ _).setCell (.inl (by simp)) _).alloc _)) (.slice (some ⟨w3.heap.size, 0, none⟩) 1 1) (by rfl) 1 rfl (ElemsAt.one1 (HEL.out _ (((Keeps.refl _ _).setCell (.inl (by simp)) _).alloc _))) (Reads.one1 HRW.out rfl) (by omega) (le_maxLen (by omega)) (by exact Nat.le_trans HZ3.out (Keeps.size (F := [wr.heap.size]) (((Keeps.refl _ _).setCell (.inl (by simp)) _).alloc _))) (fun b _ hb => HBB.out b (Nat.le_of_lt hb)) ?_; intro a4 q4 w4 ho4 hk4 hv4))
      go_roundw
      case rel =>
        refine ⟨k + 1, a4, q4, by omega, rfl, by go_num, ?_, ?_⟩
        · rw [HT.out]
          exact ho4.out
        · exact (HK4.out _ (((Keeps.refl _ _).setCell (.inl (by simp)) _).alloc _)).trans hk4.out (fun b hb hb' => by have := HOWB.out b hb'; omega)
      case measure => simp [intOf]; omega
    · have hkn : k = l.length := by omega
      have hge : (l.length : Int) ≤ (k : Int) := by omega
      have HKN := hid hkn
      clear hkn
      go_wp2_with fail
      go_ret
      have h1 := HW.out
      rw [HKN.out, List.take_of_length_le (Nat.le_refl _)] at h1
      exact ⟨a, q, by rw [HKN.out]; rfl, h1⟩

theorem small_is (r : Bool) (w : World) (m : MsgD) (ea da : Option Addr) (ec dc : Nat) (P : Nat → Prop) (hl : ListAt entL w P (.slice ea m.entries.length ec) m.entries) (hr : smallD m = r) :
    Calls Try.prog 18 #[msgV m (.slice ea m.entries.length ec) (.slice da m.data.length dc)] w fun e w' => e = .returned (.bool r) ∧ Keeps [] w w' := by
  rw [← hr]
  exact small_any w m ea da ec dc P hl
theorem cVote_is (w : World) (B n : Nat) (c : CoreD) (lv sv : Value) (h : CoreAt w B n c lv sv) (v : Int) (hv : c.vote = v) : Calls Try.prog 23 #[.pointer (some ⟨n, 0, none⟩)] w fun e w' => e = .returned (.int .i64 v) ∧ w' = w := by rw [← hv]; exact cVote_any w B n c lv sv h
/-- One way on for all orders. -/
theorem once {A G : Prop} (h1 : Hid G → A) (h2 : G) : A := h1 h2
theorem calls_fold {P : Program} {f : Nat} {args : Array Value} {w : World} {Q : Ending → World → Prop} (F : World → Prop) (hF : F w) (h : ∀ wx, F wx → Calls P f args wx Q) : Calls P f args w Q := h w hF
theorem wpl_fold {P : Program} {ops : Array Oper} {Q : Exit → Act → World → Prop} {l : List Oper} {a : Act} {w : World} (F : World → Prop) (hF : F w) (h : ∀ wx, F wx → wpList P ops Q l a wx) : wpList P ops Q l a w := h w hF
theorem getD_rep (n t : Nat) : (List.replicate n (0 : Int)).getD t 0 = 0 := by
  simp only [List.getD, List.getElem?_replicate]
  split <;> rfl

end Go.Proofs.Ytpppoajnbhipeaa
