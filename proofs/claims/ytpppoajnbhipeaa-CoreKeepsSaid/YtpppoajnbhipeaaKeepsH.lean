/- CoreKeeps, walked. -/
import Derived.Test.YtpppoajnbhipeaaKeepsD
import Derived.Test.YtpppoajnbhipeaaHearA
import Derived.Test.YtpppoajnbhipeaaChanA
import Derived.Test.YtpppoajnbhipeaaCoreU
import Derived.Lib.SlBytesConst
namespace Go.Proofs.Ytpppoajnbhipeaa
open Go Go.RowKit

theorem cBase_is (w : World) (B n : Nat) (c : CoreD) (lv sv : Value) (h : CoreAt w B n c lv sv) (b t : Int) (hb : c.base = b) (ht : c.baseTerm = t) : Calls Try.prog 35 #[.pointer (some ⟨n, 0, none⟩)] w fun e w' => e = .returned (.tuple #[.int .i64 b, .int .i64 t]) ∧ ∃ k, w' = w.drewN k := by
  rw [← hb, ← ht]
  exact cBase_any w B n c lv sv h
theorem cCommit_is (w : World) (B n : Nat) (c : CoreD) (lv sv : Value) (h : CoreAt w B n c lv sv) (b : Int) (hb : c.commit = b) : Calls Try.prog 30 #[.pointer (some ⟨n, 0, none⟩)] w fun e w' => e = .returned (.int .i64 b) ∧ w' = w := by
  rw [← hb]
  exact cCommit_any w B n c lv sv h
theorem cSnapshot_is (w : World) (B n : Nat) (c : CoreD) (lv sv : Value) (h : CoreAt w B n c lv sv) (s : List UInt8) (hs : c.snap = s) : Calls Try.prog 36 #[.pointer (some ⟨n, 0, none⟩)] w (Copied s w) := by
  rw [← hs]
  exact cSnapshot_any w B n c lv sv h
theorem sameEntries_is (l : List Ent) (m : Nat) (hm : l.length = m) (P1 P2 : Nat → Prop) (a1 a2 : Option Addr) (c1 c2 : Nat) (w : World) (h1 : ListAt entL w P1 (.slice a1 m c1) l) (h2 : ListAt entL w P2 (.slice a2 m c2) l) (hl : m ≤ 100000) :
    Calls Try.prog 34 #[.slice a1 m c1, .slice a2 m c2] w fun x w' => x = .returned (.bool true) ∧ Keeps [] w w' := by
  subst hm
  exact sameEntries_any l P1 P2 a1 a2 c1 c2 w h1 h2 hl
theorem cFrom_is (w : World) (B n : Nat) (c : CoreD) (lv sv : Value) (h : CoreAt w B n c lv sv) (i : Int) (l : List Ent) (m : Nat) (hf : fromD c i = l) (hm : l.length = m) (b1 : -4611686018427387904 ≤ i) (b2 : i ≤ 4611686018427387904) :
    Calls Try.prog 28 #[.pointer (some ⟨n, 0, none⟩), .int .i64 i] w fun e w' => ∃ a k, e = .returned (.slice a m k) ∧ ListAt entL w' (fun _ => True) (.slice a m k) l ∧ Keeps [] w w' := by
  subst hm
  subst hf
  refine (cFrom_any w B n c lv sv h i b1 b2).mono ?_
  rintro e w' ⟨a, k, h1, h2, h3⟩
  exact ⟨a, k, h1, OwnAt.list h2 (fun _ _ _ => trivial) (fun _ _ => trivial), h3⟩
theorem changes_is (w : World) (B n : Nat) (c : CoreD) (lv sv : Value) (h : CoreAt w B n c lv sv) (a d : Bool) (b : Int) (h1 : c.hard = a) (h2 : c.frm = 0) (h3 : c.tsnap = d) (hb : b = 0) :
    Calls Try.prog 37 #[.pointer (some ⟨n, 0, none⟩)] w fun e w' => e = .returned (.agg #[.bool a, .int .i64 b, .bool d]) ∧ CoreAt w' B n (changesD c).1 lv sv ∧ Keeps [n] w w' :=
  (changes_any w B n c lv sv h).mono fun e w' hx => ⟨by rw [hx.1]; unfold changesD; simp only []; rw [h1, h2, h3, hb]; rfl, hx.2⟩

set_option maxRecDepth 100000 in
set_option maxHeartbeats 6400000 in
theorem keeps_walk (ts : List Int) (at_ p t : Int) (j s : Nat) (same : Bool) (a0 : Option Addr) (c0 : Nat) (P : Nat → Prop) (w : World) (c2 : CoreD) (l2 : List Ent)
    (hl : ListAt intL w P (.slice a0 ts.length c0) ts) (hw : ∀ x ∈ ts, IntW x) (hat : IntW at_) (hp : placeOf at_ 15 = p) (hpj : p = (j : Int)) (hK : j + 1 = s) (h15 : j < 15) (ht : 1 ≤ t ∧ t ≤ 5)
    (hh : hearD (keepC ts) (snapM (s : Int) t) = (c2, [toldM (s : Int)])) (hi : KeepsIs c2 (s : Int) t) (hl2 : c2.l = l2)
    (hc : (∃ e, (oldL ts)[j]? = some e ∧ same = true ∧ e.term = t ∧ j + 1 < (oldL ts).length ∧ l2 = (oldL ts).drop (j + 1)) ∨ (∃ e, (oldL ts)[j]? = some e ∧ same = true ∧ e.term = t ∧ j + 1 = (oldL ts).length ∧ l2 = []) ∨ (∃ e, (oldL ts)[j]? = some e ∧ same = false ∧ e.term % 5 + 1 = t ∧ l2 = []) ∨ ((oldL ts).length ≤ j ∧ t = 5 ∧ l2 = [])) :
    Calls Try.prog 7 #[.slice a0 ts.length c0, .int .i64 at_, .bool same] w fun e w' => e = .returned (.bool true) ∧ Below w.heap.size w w' := by
  have HL := hid hl
  have HTS := hid hw
  have HAT : Hid ((Lit.int .i64 at_).wf = true) := hat
  have HPP : Hid (placeOf at_ 15 = (j : Int)) := by show _ = _; rw [hp, hpj]
  have HH := hid hh
  have HI := hid hi
  have HL2 := hid hl2
  have hll := oldL_len ts
  have HOT := hid (oldL_terms ts)
  have HOD := hid (oldL_data ts)
  have j0 : (0 : Int) ≤ (j : Int) := Int.natCast_nonneg _
  have wr1 : IntKind.i64.wrap (1 + (j : Int)) = (s : Int) := by rw [IntWalk.i64_in _ (by omega)]; omega
  have s0 : (0 : Int) ≤ (s : Int) := Int.natCast_nonneg _
  have wr2 : IntKind.i64.wrap ((s : Int) - 1) = (j : Int) := by rw [IntWalk.i64_in _ (by omega)]; omega
  have HK := hid hK
  obtain ⟨t1, t5⟩ := ht
  clear hl hw hat hp hpj hK hh hi hl2
  rcases hc with ⟨e, he, rfl, het, hjl, rfl⟩ | ⟨e, he, rfl, het, hjl, rfl⟩ | ⟨e, he, rfl, het, rfl⟩ | ⟨hjl, rfl, rfl⟩
  · have HE := hid he
    have hj2 : (s : Int) ≤ ((oldL ts).length : Int) := by have := HK.out; omega
    have hj1 : (s : Int) < ((oldL ts).length : Int) := by have := HK.out; omega
    subst het
    clear he hjl
    go_enter Try.func7, Try.ntmps7
    go_wp2_with fail
    refine (old_any w ts a0 c0 P HL.out HTS.out).mono ?_
    rintro x w1 ⟨la, lq, rfl, f1, k1⟩
    have K1 := hid k1
    have L1 : Hid (ListAt entL w1 (fun b => b < w1.heap.size) (.slice la (oldL ts).length lq) (oldL ts)) := (OwnAt.list f1 (P' := fun b => b < w1.heap.size) (fun b hb _ => hb) (fun b hb => (OwnAt.ge f1 b hb).2))
    clear f1 k1
    go_wp2_with fail
    refine (cfP_is 3 0 _ (by decide) (by decide)).mono ?_
    rintro x w2 ⟨rfl, k2⟩
    have K2 : Hid (Keeps [] w1 w2) := k2
    clear k2
    go_wp2_with fail
    refine (lEntries_any _ (oldL ts) la lq _ (L1.out.k K2.out) (fun e he => by have := HOD.out e he; omega) (by omega)).mono ?_
    rintro x w3 ⟨a3, q3, rfl, f3, k3⟩
    have K3 : Hid (Keeps [] w1 w3) := K2.out.trans k3 (fun _ _ h => h)
    have L3 : Hid (ListAt entL w3 (fun _ => True) (.slice a3 (oldL ts).length q3) (oldL ts)) := OwnAt.list f3 (fun _ _ _ => trivial) (fun _ _ => trivial)
    clear f3 k3
    go_wp2_with fail
    refine (cNew_any (cfP 3) 1 5 0 0 0 (oldL ts) a3 q3 (fun _ => True) _ L3.out (fun e he => by have := HOD.out e he; omega)).mono ?_
    rintro x w4 h4
    rcases h4 with ⟨_, n, lv, sv, rfl, hc4, k4⟩ | ⟨h4, _⟩
    rotate_left 1
    · exact absurd h4 (by rw [oldNew_may ts (by omega) (by omega) (by omega)]; simp)
    have C4 : Hid (CoreAt w4 w3.heap.size n (keepC ts) lv sv) := hc4
    have K4 : Hid (Keeps [] w1 w4) := K3.out.trans k4 (fun _ _ h => h)
    have L4 : Hid (ListAt entL w4 (fun b => b < w1.heap.size) (.slice la (oldL ts).length lq) (oldL ts)) := L1.out.k K4.out
    clear hc4 k4
    go_wp2_with fail
    refine (place_is (j : Int) at_ 15 _ (by omega) (by omega) HAT.out HPP.out).mono ?_
    rintro x w5 ⟨rfl, rfl⟩
    have hK15 : 1 ≤ (s : Int) ∧ (s : Int) ≤ 15 := by have := HK.out; omega
    obtain ⟨g, off, cg, hla, _, _, hgl, _⟩ := L4.out.addr (fun hn => by have := HE.out; rw [hn] at this; simp at this)
    simp at hla
    obtain ⟨hla, hlq⟩ := hla
    subst hla
    subst hlq
    obtain ⟨cs, ⟨v, rfl, hbv⟩, hcs⟩ := L4.out.get HE.out
    have y0 : w5.cell? ⟨g, off + j * 3, none⟩ = some (.int .i64 e.term) := hcs 0 _ rfl
    have jl : (j : Int) < ((oldL ts).length : Int) := by have := HK.out; omega
    have cv : (convert 38 38 (.slice (some ⟨w5.heap.size, 0, none⟩) 4 4)).run Try.prog (w5.alloc (.cells #[.int .u8 115, .int .u8 110, .int .u8 97, .int .u8 112] 5)) = .ok (.slice (some ⟨w5.heap.size, 0, none⟩) 4 4) (w5.alloc (.cells #[.int .u8 115, .int .u8 110, .int .u8 97, .int .u8 112] 5 (4, 5))) :=
      Go.Lib.run_convert_bytes_const w5 38 5 #[.int .u8 115, .int .u8 110, .int .u8 97, .int .u8 112] 4 4 Try.underlying38 Try.underlying5
    clear hbv hcs
    go_wp2_with fail
    have HW6 : Hid (∃ w6, w6 = w5.alloc (.cells #[.int .u8 115, .int .u8 110, .int .u8 97, .int .u8 112] 5 (4, 5)) ∧ Keeps [] w5 w6 ∧ BytesAt w6 (Off n lv) (.slice (some ⟨w5.heap.size, 0, none⟩) 4 4) snapB) := by
      have off : Off n lv w5.heap.size := ⟨fun hb => by have := C4.out.lt n (by simp); omega, fun hb => by have := C4.out.lt _ (List.mem_cons_of_mem _ hb); omega⟩
      refine ⟨_, rfl, (Keeps.refl [] w5).alloc _, ?_, fun _ b hb => ?_⟩
      · exact Reads.ofBlock (n := 4) (size := 1) (heap_alloc_new w5 (.cells #[.int .u8 115, .int .u8 110, .int .u8 97, .int .u8 112] 5 (4, 5))) rfl (by unfold maxLen; omega)
      · have : b = w5.heap.size := by simpa [mem_ownB, Value.ownBlock, eq_comm] using hb
        rw [this]; exact off
    obtain ⟨w6, hw6, k6, hb6⟩ := HW6.out
    rw [← hw6]
    have C6 : Hid (CoreAt w6 w3.heap.size n (keepC ts) lv sv) := C4.out.k k6
    have L6 : Hid (ListAt entL w6 (fun b => b < w1.heap.size) (.slice (some ⟨g, off, none⟩) (oldL ts).length lq) (oldL ts)) := L4.out.k k6
    have K6 : Hid (Keeps [] w1 w6) := K4.out.trans k6 (fun _ _ h => h)
    have HB6 := hid hb6
    clear hw6 k6 hb6 HW6 cv y0
    refine (hear_but w6 _ n (keepC ts) lv sv (snapM (s : Int) e.term) none (some ⟨w5.heap.size, 0, none⟩) 0 4 C6.out (ListAt.nil _ _ _ _) HB6.out (by show (4 : Nat) ≤ _; omega) (by show (0 : Int) + ((oldL ts).length : Int) + 1 ≤ _; omega) (fun _ h3 => by cases h3)).mono ?_
    rintro x w7 hp
    rw [HH.out] at hp
    obtain ⟨ra, rq, lv', sv', rfl, hc7, hms, hk7, hv7⟩ := hp
    have hls := hms.list
    obtain ⟨g2, off2, q2, ha2, _, _, _, _⟩ := hls.addr (by simp)
    simp at ha2
    obtain ⟨ha2, hq2⟩ := ha2
    subst ha2
    subst hq2
    obtain ⟨cs2, ⟨ev2, dv2, rfl, _⟩, hcs2⟩ := hls.get (i := 0) rfl
    have m4 : w7.cell? ⟨g2, off2 + 4, none⟩ = some (.int .i64 (s : Int)) := hcs2 4 _ rfl
    have m7 : w7.cell? ⟨g2, off2 + 7, none⟩ = some (.bool true) := hcs2 7 _ rfl
    have C7 : Hid (CoreAt w7 w3.heap.size n c2 lv' sv') := hc7
    have K7 : Hid (Keeps [] w1 w7) := K6.out.trans hk7 (fun b hb hb' => by have := (C6.out.lt _ hb').1; have := K3.out.size; omega)
    have L7 : Hid (ListAt entL w7 (fun b => b < w1.heap.size) (.slice (some ⟨g, off, none⟩) (oldL ts).length lq) (oldL ts)) := L6.out.keep hk7 (fun b hb hb' => by have := (C6.out.lt _ hb').1; have := K3.out.size; omega)
    clear hls hms hcs2 hc7 hk7 hv7
    go_wp2_with fail
    refine (cBase_is _ _ n c2 lv' sv' C7.out (s : Int) e.term HI.out.base HI.out.baseTerm).mono ?_
    rintro x w8 ⟨rfl, kb, rfl⟩
    go_wp2_with fail
    refine (cCommit_is _ _ n c2 lv' sv' (C7.out.k (by (repeat (first | (with_reducible exact Keeps.refl _ _) | (with_reducible assumption) | ((with_reducible refine Keeps.setCell ?_ ?_ _); rotate_left 1; (· first | (refine .inl ?_; simp; done) | (refine .inr ?_; first | exact Nat.le_refl _ | (simp; done) | (simp; omega) | omega))) | (with_reducible refine Keeps.alloc ?_ _) | (with_reducible refine Keeps.drewN ?_ _) | (with_reducible refine Keeps.drew ?_))))) (s : Int) HI.out.commit).mono ?_
    rintro x w9 ⟨rfl, rfl⟩
    go_wp2_with fail
    refine (cSnapshot_is _ _ n c2 lv' sv' (C7.out.k (by (repeat (first | (with_reducible exact Keeps.refl _ _) | (with_reducible assumption) | ((with_reducible refine Keeps.setCell ?_ ?_ _); rotate_left 1; (· first | (refine .inl ?_; simp; done) | (refine .inr ?_; first | exact Nat.le_refl _ | (simp; done) | (simp; omega) | omega))) | (with_reducible refine Keeps.alloc ?_ _) | (with_reducible refine Keeps.drewN ?_ _) | (with_reducible refine Keeps.drew ?_))))) snapB HI.out.snap).mono ?_
    rintro x w9 ⟨sa, sc, rfl, ho9, k9⟩
    have cv9 : (convert 38 9 (.slice sa snapB.length sc)).run Try.prog w9 = .ok (.string (str snapB)) w9 := conv_str (Reads.ofOwn ho9)
    have K9 : Hid (Keeps [] w7 w9) := Keeps.trans (by (repeat (first | (with_reducible exact Keeps.refl _ _) | (with_reducible assumption) | ((with_reducible refine Keeps.setCell ?_ ?_ _); rotate_left 1; (· first | (refine .inl ?_; simp; done) | (refine .inr ?_; first | exact Nat.le_refl _ | (simp; done) | (simp; omega) | omega))) | (with_reducible refine Keeps.alloc ?_ _) | (with_reducible refine Keeps.drewN ?_ _) | (with_reducible refine Keeps.drew ?_)))) k9 (fun _ _ h => h)
    clear ho9 k9
    go_wp2_with fail
    refine (changes_is _ _ n c2 lv' sv' (C7.out.k K9.out) false true 0 HI.out.hard HI.out.frm HI.out.tsnap rfl).mono ?_
    rintro x w10 ⟨rfl, hc10, hk10⟩
    have C10 : Hid (CoreAt w10 w3.heap.size n (changesD c2).1 lv' sv') := hc10
    have K10 : Hid (Keeps [] w1 w10) := (K7.out.trans K9.out (fun _ _ h => h)).trans hk10 (fun b hb hb' => by simp at hb'; have := (C7.out.lt n (by simp)).1; have := K3.out.size; omega)
    have HLS : Hid (lastD (changesD c2).1 = ((oldL ts).length : Int)) := by
      show c2.base + (c2.l.length : Int) = _
      rw [HI.out.base, HL2.out, ← HK.out]
      simp
      omega
    have HFR : Hid (fromD (changesD c2).1 0 = (oldL ts).drop s) := by
      show c2.l.drop (max 0 (c2.base + 1) - c2.base - 1).toNat = _
      rw [HI.out.base, HL2.out, HK.out, show (max (0 : Int) ((s : Int) + 1) - (s : Int) - 1).toNat = 0 by omega]
      rfl
    have L10 : Hid (ListAt entL w10 (fun b => b < w1.heap.size) (.slice (some ⟨g, off, none⟩) (oldL ts).length lq) (oldL ts)) := (L7.out.k K9.out).keep hk10 (fun b hb hb' => by simp at hb'; have := (C7.out.lt n (by simp)).1; have := K3.out.size; omega)
    clear hc10 hk10
    go_wp2_with fail
    have hcap : (oldL ts).length ≤ lq ∧ lq ≤ maxLen := by
      obtain ⟨_, _, cc, hx, h1, h2, _⟩ := L10.out.addr (fun hn => by have := HE.out; rw [hn] at this; simp at this)
      simp at hx
      rw [hx.2]
      exact ⟨h1, h2⟩
    have s1 : (s : Int) ≤ (lq : Int) := by omega
    have s2 : (lq : Int) ≤ 9223372036854775807 := by have := hcap.2; unfold maxLen at this; omega
    have HPC : Hid (ListAt entL w10 (fun b => b < w1.heap.size) (.slice (some ⟨g, off + s * 3, none⟩) ((oldL ts).length - s) (lq - s)) ((oldL ts).drop s)) := by
      have h5 := L10.out.piece s ((oldL ts).length - s) (lq - s) (some ⟨g, off + s * 3, none⟩) (by omega) (by omega) (by have := hcap.2; omega) (fun _ => rfl)
      rw [List.take_of_length_le (by simp)] at h5
      exact h5
    refine Plan.wp_region_plan (fun wx => True) 17 [(true, 0), (true, 2), (true, 3), (false, 1), (true, 4), (true, 5), (true, 6), (true, 8), (true, 9), (true, 10), (false, 7), (false, 11), (true, 12), (true, 13), (false, 14), (true, 15), (true, 16)] (by kernel_rfl) (by as_aux_lemma => kernel_rfl) (by kernel_rfl) (fun _ _ _ _ _ h => h) ?_ (fun hS => ?_)
    (· trivial)
    simp only [Plan.pick, List.append_eq, List.cons_append, List.nil_append, List.getElem?_cons_zero, List.getElem?_cons_succ, Option.getD_some, List.drop_succ_cons, List.drop_zero]
    iterate 3 (first | (refine Plan.take (v := ?_) (a' := ?_) (Plan.want_all (by rfl)) ?_ ?_ ?_; rotate_left 2; (· (intro w' hS'; (try dsimp only at hS'); go_simp; try with_reducible rfl)); (· (simp only [Act.put, List.setIfInBounds_toArray, List.set_cons_zero, List.set_cons_succ]; try with_reducible rfl))) | (refine Plan.take (v := ?_) (a' := ?_) (Plan.want_yes (by rfl) (by rfl) (by rfl) (by rfl)) ?_ ?_ ?_; rotate_left 2; (· (intro w' hS'; (try dsimp only at hS'); go_simp; try with_reducible rfl)); (· (simp only [Act.put, List.setIfInBounds_toArray, List.set_cons_zero, List.set_cons_succ]; try with_reducible rfl))) | (refine Plan.pass (a' := ?_) (Plan.want_no (by rfl) (by rfl) (by rfl) (by rfl)) ?_ ?_; rotate_left 1; (· (simp only [Act.put, List.setIfInBounds_toArray, List.set_cons_zero, List.set_cons_succ]; try with_reducible rfl))) | (refine Plan.pass (a' := ?_) (Plan.want_un (by rfl) (by rfl) (by rfl) (by rfl)) ?_ ?_; rotate_left 1; (· (simp only [Act.put, List.setIfInBounds_toArray, List.set_cons_zero, List.set_cons_succ]; try with_reducible rfl))) | fail)
    refine Plan.step ?_
    go_wp2_with fail
    refine (cLast_is _ _ n (changesD c2).1 lv' sv' (C10.out.k (by (repeat (first | (with_reducible exact Keeps.refl _ _) | (with_reducible assumption) | ((with_reducible refine Keeps.setCell ?_ ?_ _); rotate_left 1; (· first | (refine .inl ?_; simp; done) | (refine .inr ?_; first | exact Nat.le_refl _ | (simp; done) | (simp; omega) | omega))) | (with_reducible refine Keeps.alloc ?_ _) | (with_reducible refine Keeps.drewN ?_ _) | (with_reducible refine Keeps.drew ?_))))) ((oldL ts).length : Int) HLS.out).mono ?_
    rintro x w11 ⟨rfl, kl, rfl⟩
    go_wp2_with fail
    refine ⟨trivial, ?_⟩
    iterate 6 (first | (refine Plan.take (v := ?_) (a' := ?_) (Plan.want_all (by rfl)) ?_ ?_ ?_; rotate_left 2; (· (intro w' hS'; (try dsimp only at hS'); go_simp; try with_reducible rfl)); (· (simp only [Act.put, List.setIfInBounds_toArray, List.set_cons_zero, List.set_cons_succ]; try with_reducible rfl))) | (refine Plan.take (v := ?_) (a' := ?_) (Plan.want_yes (by rfl) (by rfl) (by rfl) (by rfl)) ?_ ?_ ?_; rotate_left 2; (· (intro w' hS'; (try dsimp only at hS'); go_simp; try with_reducible rfl)); (· (simp only [Act.put, List.setIfInBounds_toArray, List.set_cons_zero, List.set_cons_succ]; try with_reducible rfl))) | (refine Plan.pass (a' := ?_) (Plan.want_no (by rfl) (by rfl) (by rfl) (by rfl)) ?_ ?_; rotate_left 1; (· (simp only [Act.put, List.setIfInBounds_toArray, List.set_cons_zero, List.set_cons_succ]; try with_reducible rfl))) | (refine Plan.pass (a' := ?_) (Plan.want_un (by rfl) (by rfl) (by rfl) (by rfl)) ?_ ?_; rotate_left 1; (· (simp only [Act.put, List.setIfInBounds_toArray, List.set_cons_zero, List.set_cons_succ]; try with_reducible rfl))) | fail)
    refine Plan.step ?_
    go_wp2_with fail
    refine (cFrom_is _ _ n (changesD c2).1 lv' sv' (C10.out.k (by (repeat (first | (with_reducible exact Keeps.refl _ _) | (with_reducible assumption) | ((with_reducible refine Keeps.setCell ?_ ?_ _); rotate_left 1; (· first | (refine .inl ?_; simp; done) | (refine .inr ?_; first | exact Nat.le_refl _ | (simp; done) | (simp; omega) | omega))) | (with_reducible refine Keeps.alloc ?_ _) | (with_reducible refine Keeps.drewN ?_ _) | (with_reducible refine Keeps.drew ?_))))) 0 ((oldL ts).drop s) ((oldL ts).length - s) HFR.out (by simp) (by omega) (by omega)).mono ?_
    rintro x w12 ⟨fa, fq, rfl, hl12, hk12⟩
    have K12 : Hid (Keeps [] w10 w12) := Keeps.trans (by (repeat (first | (with_reducible exact Keeps.refl _ _) | (with_reducible assumption) | ((with_reducible refine Keeps.setCell ?_ ?_ _); rotate_left 1; (· first | (refine .inl ?_; simp; done) | (refine .inr ?_; first | exact Nat.le_refl _ | (simp; done) | (simp; omega) | omega))) | (with_reducible refine Keeps.alloc ?_ _) | (with_reducible refine Keeps.drewN ?_ _) | (with_reducible refine Keeps.drew ?_)))) hk12 (fun _ _ h => h)
    have L12 := hid hl12
    clear hl12 hk12
    go_wp2_with fail
    refine ⟨trivial, ?_⟩
    refine Plan.step ?_
    go_wp2_with fail
    refine (sameEntries_is ((oldL ts).drop s) ((oldL ts).length - s) (by simp) _ _ fa _ fq _ _ (L12.out.k (by (repeat (first | (with_reducible exact Keeps.refl _ _) | (with_reducible assumption) | ((with_reducible refine Keeps.setCell ?_ ?_ _); rotate_left 1; (· first | (refine .inl ?_; simp; done) | (refine .inr ?_; first | exact Nat.le_refl _ | (simp; done) | (simp; omega) | omega))) | (with_reducible refine Keeps.alloc ?_ _) | (with_reducible refine Keeps.drewN ?_ _) | (with_reducible refine Keeps.drew ?_))))) (HPC.out.k (Keeps.trans K12.out (by (repeat (first | (with_reducible exact Keeps.refl _ _) | (with_reducible assumption) | ((with_reducible refine Keeps.setCell ?_ ?_ _); rotate_left 1; (· first | (refine .inl ?_; simp; done) | (refine .inr ?_; first | exact Nat.le_refl _ | (simp; done) | (simp; omega) | omega))) | (with_reducible refine Keeps.alloc ?_ _) | (with_reducible refine Keeps.drewN ?_ _) | (with_reducible refine Keeps.drew ?_)))) (fun _ _ h => h))) (by omega)).mono ?_
    rintro x w13 ⟨rfl, hk13⟩
    have K13 : Hid (Keeps [] w10 w13) := K12.out.trans (Keeps.trans (by (repeat (first | (with_reducible exact Keeps.refl _ _) | (with_reducible assumption) | ((with_reducible refine Keeps.setCell ?_ ?_ _); rotate_left 1; (· first | (refine .inl ?_; simp; done) | (refine .inr ?_; first | exact Nat.le_refl _ | (simp; done) | (simp; omega) | omega))) | (with_reducible refine Keeps.alloc ?_ _) | (with_reducible refine Keeps.drewN ?_ _) | (with_reducible refine Keeps.drew ?_)))) hk13 (fun _ _ h => h)) (fun _ _ h => h)
    clear hk13
    go_wp2_with fail
    refine ⟨trivial, ?_⟩
    iterate 2 (first | (refine Plan.take (v := ?_) (a' := ?_) (Plan.want_all (by rfl)) ?_ ?_ ?_; rotate_left 2; (· (intro w' hS'; (try dsimp only at hS'); go_simp; try with_reducible rfl)); (· (simp only [Act.put, List.setIfInBounds_toArray, List.set_cons_zero, List.set_cons_succ]; try with_reducible rfl))) | (refine Plan.take (v := ?_) (a' := ?_) (Plan.want_yes (by rfl) (by rfl) (by rfl) (by rfl)) ?_ ?_ ?_; rotate_left 2; (· (intro w' hS'; (try dsimp only at hS'); go_simp; try with_reducible rfl)); (· (simp only [Act.put, List.setIfInBounds_toArray, List.set_cons_zero, List.set_cons_succ]; try with_reducible rfl))) | (refine Plan.pass (a' := ?_) (Plan.want_no (by rfl) (by rfl) (by rfl) (by rfl)) ?_ ?_; rotate_left 1; (· (simp only [Act.put, List.setIfInBounds_toArray, List.set_cons_zero, List.set_cons_succ]; try with_reducible rfl))) | (refine Plan.pass (a' := ?_) (Plan.want_un (by rfl) (by rfl) (by rfl) (by rfl)) ?_ ?_; rotate_left 1; (· (simp only [Act.put, List.setIfInBounds_toArray, List.set_cons_zero, List.set_cons_succ]; try with_reducible rfl))) | fail)
    refine Plan.step ?_
    go_wp2_with fail
    refine (cAwake_any _).mono ?_
    rintro x w14 ⟨rfl, hk14⟩
    have K14 : Hid (Keeps [] w10 w14) := K13.out.trans (Keeps.trans (by (repeat (first | (with_reducible exact Keeps.refl _ _) | (with_reducible assumption) | ((with_reducible refine Keeps.setCell ?_ ?_ _); rotate_left 1; (· first | (refine .inl ?_; simp; done) | (refine .inr ?_; first | exact Nat.le_refl _ | (simp; done) | (simp; omega) | omega))) | (with_reducible refine Keeps.alloc ?_ _) | (with_reducible refine Keeps.drewN ?_ _) | (with_reducible refine Keeps.drew ?_)))) hk14 (fun _ _ h => h)) (fun _ _ h => h)
    clear hk14
    go_wp2_with fail
    refine ⟨trivial, ?_⟩
    iterate 2 (first | (refine Plan.take (v := ?_) (a' := ?_) (Plan.want_all (by rfl)) ?_ ?_ ?_; rotate_left 2; (· (intro w' hS'; (try dsimp only at hS'); go_simp; try with_reducible rfl)); (· (simp only [Act.put, List.setIfInBounds_toArray, List.set_cons_zero, List.set_cons_succ]; try with_reducible rfl))) | (refine Plan.take (v := ?_) (a' := ?_) (Plan.want_yes (by rfl) (by rfl) (by rfl) (by rfl)) ?_ ?_ ?_; rotate_left 2; (· (intro w' hS'; (try dsimp only at hS'); go_simp; try with_reducible rfl)); (· (simp only [Act.put, List.setIfInBounds_toArray, List.set_cons_zero, List.set_cons_succ]; try with_reducible rfl))) | (refine Plan.pass (a' := ?_) (Plan.want_no (by rfl) (by rfl) (by rfl) (by rfl)) ?_ ?_; rotate_left 1; (· (simp only [Act.put, List.setIfInBounds_toArray, List.set_cons_zero, List.set_cons_succ]; try with_reducible rfl))) | (refine Plan.pass (a' := ?_) (Plan.want_un (by rfl) (by rfl) (by rfl) (by rfl)) ?_ ?_; rotate_left 1; (· (simp only [Act.put, List.setIfInBounds_toArray, List.set_cons_zero, List.set_cons_succ]; try with_reducible rfl))) | fail)
    refine Plan.fin ?_
    go_wp2_with fail
    go_ret
    exact ⟨rfl, Keeps.below ((K1.out.trans K10.out (fun _ _ h => h)).trans (K14.out.trans (by (repeat (first | (with_reducible exact Keeps.refl _ _) | (with_reducible assumption) | ((with_reducible refine Keeps.setCell ?_ ?_ _); rotate_left 1; (· first | (refine .inl ?_; simp; done) | (refine .inr ?_; first | exact Nat.le_refl _ | (simp; done) | (simp; omega) | omega))) | (with_reducible refine Keeps.alloc ?_ _) | (with_reducible refine Keeps.drewN ?_ _) | (with_reducible refine Keeps.drew ?_)))) (fun _ _ h => h)) (fun _ _ h => h)) (Nat.le_refl _) (fun _ h => by cases h)⟩
      
  · have HE := hid he
    have hj2 : (s : Int) ≤ ((oldL ts).length : Int) := by have := HK.out; omega
    have hj1 : ((oldL ts).length : Int) ≤ (s : Int) := by have := HK.out; omega
    subst het
    clear he hjl
    go_enter Try.func7, Try.ntmps7
    go_wp2_with fail
    refine (old_any w ts a0 c0 P HL.out HTS.out).mono ?_
    rintro x w1 ⟨la, lq, rfl, f1, k1⟩
    have K1 := hid k1
    have L1 : Hid (ListAt entL w1 (fun b => b < w1.heap.size) (.slice la (oldL ts).length lq) (oldL ts)) := (OwnAt.list f1 (P' := fun b => b < w1.heap.size) (fun b hb _ => hb) (fun b hb => (OwnAt.ge f1 b hb).2))
    clear f1 k1
    go_wp2_with fail
    refine (cfP_is 3 0 _ (by decide) (by decide)).mono ?_
    rintro x w2 ⟨rfl, k2⟩
    have K2 : Hid (Keeps [] w1 w2) := k2
    clear k2
    go_wp2_with fail
    refine (lEntries_any _ (oldL ts) la lq _ (L1.out.k K2.out) (fun e he => by have := HOD.out e he; omega) (by omega)).mono ?_
    rintro x w3 ⟨a3, q3, rfl, f3, k3⟩
    have K3 : Hid (Keeps [] w1 w3) := K2.out.trans k3 (fun _ _ h => h)
    have L3 : Hid (ListAt entL w3 (fun _ => True) (.slice a3 (oldL ts).length q3) (oldL ts)) := OwnAt.list f3 (fun _ _ _ => trivial) (fun _ _ => trivial)
    clear f3 k3
    go_wp2_with fail
    refine (cNew_any (cfP 3) 1 5 0 0 0 (oldL ts) a3 q3 (fun _ => True) _ L3.out (fun e he => by have := HOD.out e he; omega)).mono ?_
    rintro x w4 h4
    rcases h4 with ⟨_, n, lv, sv, rfl, hc4, k4⟩ | ⟨h4, _⟩
    rotate_left 1
    · exact absurd h4 (by rw [oldNew_may ts (by omega) (by omega) (by omega)]; simp)
    have C4 : Hid (CoreAt w4 w3.heap.size n (keepC ts) lv sv) := hc4
    have K4 : Hid (Keeps [] w1 w4) := K3.out.trans k4 (fun _ _ h => h)
    have L4 : Hid (ListAt entL w4 (fun b => b < w1.heap.size) (.slice la (oldL ts).length lq) (oldL ts)) := L1.out.k K4.out
    clear hc4 k4
    go_wp2_with fail
    refine (place_is (j : Int) at_ 15 _ (by omega) (by omega) HAT.out HPP.out).mono ?_
    rintro x w5 ⟨rfl, rfl⟩
    have hK15 : 1 ≤ (s : Int) ∧ (s : Int) ≤ 15 := by have := HK.out; omega
    obtain ⟨g, off, cg, hla, _, _, hgl, _⟩ := L4.out.addr (fun hn => by have := HE.out; rw [hn] at this; simp at this)
    simp at hla
    obtain ⟨hla, hlq⟩ := hla
    subst hla
    subst hlq
    obtain ⟨cs, ⟨v, rfl, hbv⟩, hcs⟩ := L4.out.get HE.out
    have y0 : w5.cell? ⟨g, off + j * 3, none⟩ = some (.int .i64 e.term) := hcs 0 _ rfl
    have jl : (j : Int) < ((oldL ts).length : Int) := by have := HK.out; omega
    have cv : (convert 38 38 (.slice (some ⟨w5.heap.size, 0, none⟩) 4 4)).run Try.prog (w5.alloc (.cells #[.int .u8 115, .int .u8 110, .int .u8 97, .int .u8 112] 5)) = .ok (.slice (some ⟨w5.heap.size, 0, none⟩) 4 4) (w5.alloc (.cells #[.int .u8 115, .int .u8 110, .int .u8 97, .int .u8 112] 5 (4, 5))) :=
      Go.Lib.run_convert_bytes_const w5 38 5 #[.int .u8 115, .int .u8 110, .int .u8 97, .int .u8 112] 4 4 Try.underlying38 Try.underlying5
    clear hbv hcs
    go_wp2_with fail
    have HW6 : Hid (∃ w6, w6 = w5.alloc (.cells #[.int .u8 115, .int .u8 110, .int .u8 97, .int .u8 112] 5 (4, 5)) ∧ Keeps [] w5 w6 ∧ BytesAt w6 (Off n lv) (.slice (some ⟨w5.heap.size, 0, none⟩) 4 4) snapB) := by
      have off : Off n lv w5.heap.size := ⟨fun hb => by have := C4.out.lt n (by simp); omega, fun hb => by have := C4.out.lt _ (List.mem_cons_of_mem _ hb); omega⟩
      refine ⟨_, rfl, (Keeps.refl [] w5).alloc _, ?_, fun _ b hb => ?_⟩
      · exact Reads.ofBlock (n := 4) (size := 1) (heap_alloc_new w5 (.cells #[.int .u8 115, .int .u8 110, .int .u8 97, .int .u8 112] 5 (4, 5))) rfl (by unfold maxLen; omega)
      · have : b = w5.heap.size := by simpa [mem_ownB, Value.ownBlock, eq_comm] using hb
        rw [this]; exact off
    obtain ⟨w6, hw6, k6, hb6⟩ := HW6.out
    rw [← hw6]
    have C6 : Hid (CoreAt w6 w3.heap.size n (keepC ts) lv sv) := C4.out.k k6
    have L6 : Hid (ListAt entL w6 (fun b => b < w1.heap.size) (.slice (some ⟨g, off, none⟩) (oldL ts).length lq) (oldL ts)) := L4.out.k k6
    have K6 : Hid (Keeps [] w1 w6) := K4.out.trans k6 (fun _ _ h => h)
    have HB6 := hid hb6
    clear hw6 k6 hb6 HW6 cv y0
    refine (hear_but w6 _ n (keepC ts) lv sv (snapM (s : Int) e.term) none (some ⟨w5.heap.size, 0, none⟩) 0 4 C6.out (ListAt.nil _ _ _ _) HB6.out (by show (4 : Nat) ≤ _; omega) (by show (0 : Int) + ((oldL ts).length : Int) + 1 ≤ _; omega) (fun _ h3 => by cases h3)).mono ?_
    rintro x w7 hp
    rw [HH.out] at hp
    obtain ⟨ra, rq, lv', sv', rfl, hc7, hms, hk7, hv7⟩ := hp
    have hls := hms.list
    obtain ⟨g2, off2, q2, ha2, _, _, _, _⟩ := hls.addr (by simp)
    simp at ha2
    obtain ⟨ha2, hq2⟩ := ha2
    subst ha2
    subst hq2
    obtain ⟨cs2, ⟨ev2, dv2, rfl, _⟩, hcs2⟩ := hls.get (i := 0) rfl
    have m4 : w7.cell? ⟨g2, off2 + 4, none⟩ = some (.int .i64 (s : Int)) := hcs2 4 _ rfl
    have m7 : w7.cell? ⟨g2, off2 + 7, none⟩ = some (.bool true) := hcs2 7 _ rfl
    have C7 : Hid (CoreAt w7 w3.heap.size n c2 lv' sv') := hc7
    have K7 : Hid (Keeps [] w1 w7) := K6.out.trans hk7 (fun b hb hb' => by have := (C6.out.lt _ hb').1; have := K3.out.size; omega)
    have L7 : Hid (ListAt entL w7 (fun b => b < w1.heap.size) (.slice (some ⟨g, off, none⟩) (oldL ts).length lq) (oldL ts)) := L6.out.keep hk7 (fun b hb hb' => by have := (C6.out.lt _ hb').1; have := K3.out.size; omega)
    clear hls hms hcs2 hc7 hk7 hv7
    go_wp2_with fail
    refine (cBase_is _ _ n c2 lv' sv' C7.out (s : Int) e.term HI.out.base HI.out.baseTerm).mono ?_
    rintro x w8 ⟨rfl, kb, rfl⟩
    go_wp2_with fail
    refine (cCommit_is _ _ n c2 lv' sv' (C7.out.k (by (repeat (first | (with_reducible exact Keeps.refl _ _) | (with_reducible assumption) | ((with_reducible refine Keeps.setCell ?_ ?_ _); rotate_left 1; (· first | (refine .inl ?_; simp; done) | (refine .inr ?_; first | exact Nat.le_refl _ | (simp; done) | (simp; omega) | omega))) | (with_reducible refine Keeps.alloc ?_ _) | (with_reducible refine Keeps.drewN ?_ _) | (with_reducible refine Keeps.drew ?_))))) (s : Int) HI.out.commit).mono ?_
    rintro x w9 ⟨rfl, rfl⟩
    go_wp2_with fail
    refine (cSnapshot_is _ _ n c2 lv' sv' (C7.out.k (by (repeat (first | (with_reducible exact Keeps.refl _ _) | (with_reducible assumption) | ((with_reducible refine Keeps.setCell ?_ ?_ _); rotate_left 1; (· first | (refine .inl ?_; simp; done) | (refine .inr ?_; first | exact Nat.le_refl _ | (simp; done) | (simp; omega) | omega))) | (with_reducible refine Keeps.alloc ?_ _) | (with_reducible refine Keeps.drewN ?_ _) | (with_reducible refine Keeps.drew ?_))))) snapB HI.out.snap).mono ?_
    rintro x w9 ⟨sa, sc, rfl, ho9, k9⟩
    have cv9 : (convert 38 9 (.slice sa snapB.length sc)).run Try.prog w9 = .ok (.string (str snapB)) w9 := conv_str (Reads.ofOwn ho9)
    have K9 : Hid (Keeps [] w7 w9) := Keeps.trans (by (repeat (first | (with_reducible exact Keeps.refl _ _) | (with_reducible assumption) | ((with_reducible refine Keeps.setCell ?_ ?_ _); rotate_left 1; (· first | (refine .inl ?_; simp; done) | (refine .inr ?_; first | exact Nat.le_refl _ | (simp; done) | (simp; omega) | omega))) | (with_reducible refine Keeps.alloc ?_ _) | (with_reducible refine Keeps.drewN ?_ _) | (with_reducible refine Keeps.drew ?_)))) k9 (fun _ _ h => h)
    clear ho9 k9
    go_wp2_with fail
    refine (changes_is _ _ n c2 lv' sv' (C7.out.k K9.out) false true 0 HI.out.hard HI.out.frm HI.out.tsnap rfl).mono ?_
    rintro x w10 ⟨rfl, hc10, hk10⟩
    have C10 : Hid (CoreAt w10 w3.heap.size n (changesD c2).1 lv' sv') := hc10
    have K10 : Hid (Keeps [] w1 w10) := (K7.out.trans K9.out (fun _ _ h => h)).trans hk10 (fun b hb hb' => by simp at hb'; have := (C7.out.lt n (by simp)).1; have := K3.out.size; omega)
    have HLS : Hid (lastD (changesD c2).1 = (s : Int)) := by
      show c2.base + (c2.l.length : Int) = _
      rw [HI.out.base, HL2.out]
      simp
    have HFR : Hid (fromD (changesD c2).1 0 = []) := by
      show c2.l.drop (max 0 (c2.base + 1) - c2.base - 1).toNat = _
      rw [HL2.out]
      simp
    clear hc10 hk10
    go_wp2_with fail
    refine (cLast_is _ _ n (changesD c2).1 lv' sv' C10.out (s : Int) HLS.out).mono ?_
    rintro x w11 ⟨rfl, kl, rfl⟩
    go_wp2_with fail
    refine (cFrom_is _ _ n (changesD c2).1 lv' sv' (C10.out.k (by (repeat (first | (with_reducible exact Keeps.refl _ _) | (with_reducible assumption) | ((with_reducible refine Keeps.setCell ?_ ?_ _); rotate_left 1; (· first | (refine .inl ?_; simp; done) | (refine .inr ?_; first | exact Nat.le_refl _ | (simp; done) | (simp; omega) | omega))) | (with_reducible refine Keeps.alloc ?_ _) | (with_reducible refine Keeps.drewN ?_ _) | (with_reducible refine Keeps.drew ?_))))) 0 [] 0 HFR.out rfl (by omega) (by omega)).mono ?_
    rintro x w12 ⟨fa, fq, rfl, hl12, hk12⟩
    have K12 : Hid (Keeps [] w10 w12) := Keeps.trans (by (repeat (first | (with_reducible exact Keeps.refl _ _) | (with_reducible assumption) | ((with_reducible refine Keeps.setCell ?_ ?_ _); rotate_left 1; (· first | (refine .inl ?_; simp; done) | (refine .inr ?_; first | exact Nat.le_refl _ | (simp; done) | (simp; omega) | omega))) | (with_reducible refine Keeps.alloc ?_ _) | (with_reducible refine Keeps.drewN ?_ _) | (with_reducible refine Keeps.drew ?_)))) hk12 (fun _ _ h => h)
    clear hl12 hk12
    go_wp2_with fail
    refine (cAwake_any _).mono ?_
    rintro x w14 ⟨rfl, hk14⟩
    have K14 : Hid (Keeps [] w10 w14) := K12.out.trans (Keeps.trans (by (repeat (first | (with_reducible exact Keeps.refl _ _) | (with_reducible assumption) | ((with_reducible refine Keeps.setCell ?_ ?_ _); rotate_left 1; (· first | (refine .inl ?_; simp; done) | (refine .inr ?_; first | exact Nat.le_refl _ | (simp; done) | (simp; omega) | omega))) | (with_reducible refine Keeps.alloc ?_ _) | (with_reducible refine Keeps.drewN ?_ _) | (with_reducible refine Keeps.drew ?_)))) hk14 (fun _ _ h => h)) (fun _ _ h => h)
    clear hk14
    go_wp2_with fail
    go_ret
    exact ⟨rfl, Keeps.below ((K1.out.trans K10.out (fun _ _ h => h)).trans K14.out (fun _ _ h => h)) (Nat.le_refl _) (fun _ h => by cases h)⟩
  · have HE := hid he
    have hjl := (List.getElem?_eq_some_iff.1 he).1
    have hj2 : (s : Int) ≤ ((oldL ts).length : Int) := by have := HK.out; omega
    have HET := hid het
    have te := HOT.out e (List.mem_of_getElem? he)
    obtain ⟨te1, te2⟩ := te
    have wr5 : IntKind.i64.wrap (e.term % 5 + 1) = t := by rw [IntWalk.i64_in _ (by omega)]; exact het
    clear he hjl het
    go_enter Try.func7, Try.ntmps7
    go_wp2_with fail
    refine (old_any w ts a0 c0 P HL.out HTS.out).mono ?_
    rintro x w1 ⟨la, lq, rfl, f1, k1⟩
    have K1 := hid k1
    have L1 : Hid (ListAt entL w1 (fun b => b < w1.heap.size) (.slice la (oldL ts).length lq) (oldL ts)) := (OwnAt.list f1 (P' := fun b => b < w1.heap.size) (fun b hb _ => hb) (fun b hb => (OwnAt.ge f1 b hb).2))
    clear f1 k1
    go_wp2_with fail
    refine (cfP_is 3 0 _ (by decide) (by decide)).mono ?_
    rintro x w2 ⟨rfl, k2⟩
    have K2 : Hid (Keeps [] w1 w2) := k2
    clear k2
    go_wp2_with fail
    refine (lEntries_any _ (oldL ts) la lq _ (L1.out.k K2.out) (fun e he => by have := HOD.out e he; omega) (by omega)).mono ?_
    rintro x w3 ⟨a3, q3, rfl, f3, k3⟩
    have K3 : Hid (Keeps [] w1 w3) := K2.out.trans k3 (fun _ _ h => h)
    have L3 : Hid (ListAt entL w3 (fun _ => True) (.slice a3 (oldL ts).length q3) (oldL ts)) := OwnAt.list f3 (fun _ _ _ => trivial) (fun _ _ => trivial)
    clear f3 k3
    go_wp2_with fail
    refine (cNew_any (cfP 3) 1 5 0 0 0 (oldL ts) a3 q3 (fun _ => True) _ L3.out (fun e he => by have := HOD.out e he; omega)).mono ?_
    rintro x w4 h4
    rcases h4 with ⟨_, n, lv, sv, rfl, hc4, k4⟩ | ⟨h4, _⟩
    rotate_left 1
    · exact absurd h4 (by rw [oldNew_may ts (by omega) (by omega) (by omega)]; simp)
    have C4 : Hid (CoreAt w4 w3.heap.size n (keepC ts) lv sv) := hc4
    have K4 : Hid (Keeps [] w1 w4) := K3.out.trans k4 (fun _ _ h => h)
    have L4 : Hid (ListAt entL w4 (fun b => b < w1.heap.size) (.slice la (oldL ts).length lq) (oldL ts)) := L1.out.k K4.out
    clear hc4 k4
    go_wp2_with fail
    refine (place_is (j : Int) at_ 15 _ (by omega) (by omega) HAT.out HPP.out).mono ?_
    rintro x w5 ⟨rfl, rfl⟩
    have hK15 : 1 ≤ (s : Int) ∧ (s : Int) ≤ 15 := by have := HK.out; omega
    obtain ⟨g, off, cg, hla, _, _, hgl, _⟩ := L4.out.addr (fun hn => by have := HE.out; rw [hn] at this; simp at this)
    simp at hla
    obtain ⟨hla, hlq⟩ := hla
    subst hla
    subst hlq
    obtain ⟨cs, ⟨v, rfl, hbv⟩, hcs⟩ := L4.out.get HE.out
    have y0 : w5.cell? ⟨g, off + j * 3, none⟩ = some (.int .i64 e.term) := hcs 0 _ rfl
    have jl : (j : Int) < ((oldL ts).length : Int) := by have := HK.out; omega
    have cv : (convert 38 38 (.slice (some ⟨w5.heap.size, 0, none⟩) 4 4)).run Try.prog (w5.alloc (.cells #[.int .u8 115, .int .u8 110, .int .u8 97, .int .u8 112] 5)) = .ok (.slice (some ⟨w5.heap.size, 0, none⟩) 4 4) (w5.alloc (.cells #[.int .u8 115, .int .u8 110, .int .u8 97, .int .u8 112] 5 (4, 5))) :=
      Go.Lib.run_convert_bytes_const w5 38 5 #[.int .u8 115, .int .u8 110, .int .u8 97, .int .u8 112] 4 4 Try.underlying38 Try.underlying5
    clear hbv hcs
    go_wp2_with fail
    have HW6 : Hid (∃ w6, w6 = w5.alloc (.cells #[.int .u8 115, .int .u8 110, .int .u8 97, .int .u8 112] 5 (4, 5)) ∧ Keeps [] w5 w6 ∧ BytesAt w6 (Off n lv) (.slice (some ⟨w5.heap.size, 0, none⟩) 4 4) snapB) := by
      have off : Off n lv w5.heap.size := ⟨fun hb => by have := C4.out.lt n (by simp); omega, fun hb => by have := C4.out.lt _ (List.mem_cons_of_mem _ hb); omega⟩
      refine ⟨_, rfl, (Keeps.refl [] w5).alloc _, ?_, fun _ b hb => ?_⟩
      · exact Reads.ofBlock (n := 4) (size := 1) (heap_alloc_new w5 (.cells #[.int .u8 115, .int .u8 110, .int .u8 97, .int .u8 112] 5 (4, 5))) rfl (by unfold maxLen; omega)
      · have : b = w5.heap.size := by simpa [mem_ownB, Value.ownBlock, eq_comm] using hb
        rw [this]; exact off
    obtain ⟨w6, hw6, k6, hb6⟩ := HW6.out
    rw [← hw6]
    have C6 : Hid (CoreAt w6 w3.heap.size n (keepC ts) lv sv) := C4.out.k k6
    have L6 : Hid (ListAt entL w6 (fun b => b < w1.heap.size) (.slice (some ⟨g, off, none⟩) (oldL ts).length lq) (oldL ts)) := L4.out.k k6
    have K6 : Hid (Keeps [] w1 w6) := K4.out.trans k6 (fun _ _ h => h)
    have HB6 := hid hb6
    clear hw6 k6 hb6 HW6 cv y0
    refine (hear_but w6 _ n (keepC ts) lv sv (snapM (s : Int) t) none (some ⟨w5.heap.size, 0, none⟩) 0 4 C6.out (ListAt.nil _ _ _ _) HB6.out (by show (4 : Nat) ≤ _; omega) (by show (0 : Int) + ((oldL ts).length : Int) + 1 ≤ _; omega) (fun _ h3 => by cases h3)).mono ?_
    rintro x w7 hp
    rw [HH.out] at hp
    obtain ⟨ra, rq, lv', sv', rfl, hc7, hms, hk7, hv7⟩ := hp
    have hls := hms.list
    obtain ⟨g2, off2, q2, ha2, _, _, _, _⟩ := hls.addr (by simp)
    simp at ha2
    obtain ⟨ha2, hq2⟩ := ha2
    subst ha2
    subst hq2
    obtain ⟨cs2, ⟨ev2, dv2, rfl, _⟩, hcs2⟩ := hls.get (i := 0) rfl
    have m4 : w7.cell? ⟨g2, off2 + 4, none⟩ = some (.int .i64 (s : Int)) := hcs2 4 _ rfl
    have m7 : w7.cell? ⟨g2, off2 + 7, none⟩ = some (.bool true) := hcs2 7 _ rfl
    have C7 : Hid (CoreAt w7 w3.heap.size n c2 lv' sv') := hc7
    have K7 : Hid (Keeps [] w1 w7) := K6.out.trans hk7 (fun b hb hb' => by have := (C6.out.lt _ hb').1; have := K3.out.size; omega)
    have L7 : Hid (ListAt entL w7 (fun b => b < w1.heap.size) (.slice (some ⟨g, off, none⟩) (oldL ts).length lq) (oldL ts)) := L6.out.keep hk7 (fun b hb hb' => by have := (C6.out.lt _ hb').1; have := K3.out.size; omega)
    clear hls hms hcs2 hc7 hk7 hv7
    go_wp2_with fail
    refine (cBase_is _ _ n c2 lv' sv' C7.out (s : Int) t HI.out.base HI.out.baseTerm).mono ?_
    rintro x w8 ⟨rfl, kb, rfl⟩
    go_wp2_with fail
    refine (cCommit_is _ _ n c2 lv' sv' (C7.out.k (by (repeat (first | (with_reducible exact Keeps.refl _ _) | (with_reducible assumption) | ((with_reducible refine Keeps.setCell ?_ ?_ _); rotate_left 1; (· first | (refine .inl ?_; simp; done) | (refine .inr ?_; first | exact Nat.le_refl _ | (simp; done) | (simp; omega) | omega))) | (with_reducible refine Keeps.alloc ?_ _) | (with_reducible refine Keeps.drewN ?_ _) | (with_reducible refine Keeps.drew ?_))))) (s : Int) HI.out.commit).mono ?_
    rintro x w9 ⟨rfl, rfl⟩
    go_wp2_with fail
    refine (cSnapshot_is _ _ n c2 lv' sv' (C7.out.k (by (repeat (first | (with_reducible exact Keeps.refl _ _) | (with_reducible assumption) | ((with_reducible refine Keeps.setCell ?_ ?_ _); rotate_left 1; (· first | (refine .inl ?_; simp; done) | (refine .inr ?_; first | exact Nat.le_refl _ | (simp; done) | (simp; omega) | omega))) | (with_reducible refine Keeps.alloc ?_ _) | (with_reducible refine Keeps.drewN ?_ _) | (with_reducible refine Keeps.drew ?_))))) snapB HI.out.snap).mono ?_
    rintro x w9 ⟨sa, sc, rfl, ho9, k9⟩
    have cv9 : (convert 38 9 (.slice sa snapB.length sc)).run Try.prog w9 = .ok (.string (str snapB)) w9 := conv_str (Reads.ofOwn ho9)
    have K9 : Hid (Keeps [] w7 w9) := Keeps.trans (by (repeat (first | (with_reducible exact Keeps.refl _ _) | (with_reducible assumption) | ((with_reducible refine Keeps.setCell ?_ ?_ _); rotate_left 1; (· first | (refine .inl ?_; simp; done) | (refine .inr ?_; first | exact Nat.le_refl _ | (simp; done) | (simp; omega) | omega))) | (with_reducible refine Keeps.alloc ?_ _) | (with_reducible refine Keeps.drewN ?_ _) | (with_reducible refine Keeps.drew ?_)))) k9 (fun _ _ h => h)
    clear ho9 k9
    go_wp2_with fail
    refine (changes_is _ _ n c2 lv' sv' (C7.out.k K9.out) false true 0 HI.out.hard HI.out.frm HI.out.tsnap rfl).mono ?_
    rintro x w10 ⟨rfl, hc10, hk10⟩
    have C10 : Hid (CoreAt w10 w3.heap.size n (changesD c2).1 lv' sv') := hc10
    have K10 : Hid (Keeps [] w1 w10) := (K7.out.trans K9.out (fun _ _ h => h)).trans hk10 (fun b hb hb' => by simp at hb'; have := (C7.out.lt n (by simp)).1; have := K3.out.size; omega)
    have HLS : Hid (lastD (changesD c2).1 = (s : Int)) := by
      show c2.base + (c2.l.length : Int) = _
      rw [HI.out.base, HL2.out]
      simp
    have HFR : Hid (fromD (changesD c2).1 0 = []) := by
      show c2.l.drop (max 0 (c2.base + 1) - c2.base - 1).toNat = _
      rw [HL2.out]
      simp
    clear hc10 hk10
    go_wp2_with fail
    all_goals
      refine (cLast_is _ _ n (changesD c2).1 lv' sv' C10.out (s : Int) HLS.out).mono ?_
      rintro x w11 ⟨rfl, kl, rfl⟩
      go_wp2_with fail
      refine (cFrom_is _ _ n (changesD c2).1 lv' sv' (C10.out.k (by (repeat (first | (with_reducible exact Keeps.refl _ _) | (with_reducible assumption) | ((with_reducible refine Keeps.setCell ?_ ?_ _); rotate_left 1; (· first | (refine .inl ?_; simp; done) | (refine .inr ?_; first | exact Nat.le_refl _ | (simp; done) | (simp; omega) | omega))) | (with_reducible refine Keeps.alloc ?_ _) | (with_reducible refine Keeps.drewN ?_ _) | (with_reducible refine Keeps.drew ?_))))) 0 [] 0 HFR.out rfl (by omega) (by omega)).mono ?_
      rintro x w12 ⟨fa, fq, rfl, hl12, hk12⟩
      have K12 : Hid (Keeps [] w10 w12) := Keeps.trans (by (repeat (first | (with_reducible exact Keeps.refl _ _) | (with_reducible assumption) | ((with_reducible refine Keeps.setCell ?_ ?_ _); rotate_left 1; (· first | (refine .inl ?_; simp; done) | (refine .inr ?_; first | exact Nat.le_refl _ | (simp; done) | (simp; omega) | omega))) | (with_reducible refine Keeps.alloc ?_ _) | (with_reducible refine Keeps.drewN ?_ _) | (with_reducible refine Keeps.drew ?_)))) hk12 (fun _ _ h => h)
      clear hl12 hk12
      go_wp2_with fail
      refine (cAwake_any _).mono ?_
      rintro x w14 ⟨rfl, hk14⟩
      have K14 : Hid (Keeps [] w10 w14) := K12.out.trans (Keeps.trans (by (repeat (first | (with_reducible exact Keeps.refl _ _) | (with_reducible assumption) | ((with_reducible refine Keeps.setCell ?_ ?_ _); rotate_left 1; (· first | (refine .inl ?_; simp; done) | (refine .inr ?_; first | exact Nat.le_refl _ | (simp; done) | (simp; omega) | omega))) | (with_reducible refine Keeps.alloc ?_ _) | (with_reducible refine Keeps.drewN ?_ _) | (with_reducible refine Keeps.drew ?_)))) hk14 (fun _ _ h => h)) (fun _ _ h => h)
      clear hk14
      go_wp2_with fail
      go_ret
      exact ⟨rfl, Keeps.below ((K1.out.trans K10.out (fun _ _ h => h)).trans K14.out (fun _ _ h => h)) (Nat.le_refl _) (fun _ h => by cases h)⟩
  · have hj2 : ((oldL ts).length : Int) < (s : Int) := by have := HK.out; omega
    clear hjl
    go_enter Try.func7, Try.ntmps7
    go_wp2_with fail
    refine (old_any w ts a0 c0 P HL.out HTS.out).mono ?_
    rintro x w1 ⟨la, lq, rfl, f1, k1⟩
    have K1 := hid k1
    have L1 : Hid (ListAt entL w1 (fun b => b < w1.heap.size) (.slice la (oldL ts).length lq) (oldL ts)) := (OwnAt.list f1 (P' := fun b => b < w1.heap.size) (fun b hb _ => hb) (fun b hb => (OwnAt.ge f1 b hb).2))
    clear f1 k1
    go_wp2_with fail
    refine (cfP_is 3 0 _ (by decide) (by decide)).mono ?_
    rintro x w2 ⟨rfl, k2⟩
    have K2 : Hid (Keeps [] w1 w2) := k2
    clear k2
    go_wp2_with fail
    refine (lEntries_any _ (oldL ts) la lq _ (L1.out.k K2.out) (fun e he => by have := HOD.out e he; omega) (by omega)).mono ?_
    rintro x w3 ⟨a3, q3, rfl, f3, k3⟩
    have K3 : Hid (Keeps [] w1 w3) := K2.out.trans k3 (fun _ _ h => h)
    have L3 : Hid (ListAt entL w3 (fun _ => True) (.slice a3 (oldL ts).length q3) (oldL ts)) := OwnAt.list f3 (fun _ _ _ => trivial) (fun _ _ => trivial)
    clear f3 k3
    go_wp2_with fail
    refine (cNew_any (cfP 3) 1 5 0 0 0 (oldL ts) a3 q3 (fun _ => True) _ L3.out (fun e he => by have := HOD.out e he; omega)).mono ?_
    rintro x w4 h4
    rcases h4 with ⟨_, n, lv, sv, rfl, hc4, k4⟩ | ⟨h4, _⟩
    rotate_left 1
    · exact absurd h4 (by rw [oldNew_may ts (by omega) (by omega) (by omega)]; simp)
    have C4 : Hid (CoreAt w4 w3.heap.size n (keepC ts) lv sv) := hc4
    have K4 : Hid (Keeps [] w1 w4) := K3.out.trans k4 (fun _ _ h => h)
    have L4 : Hid (ListAt entL w4 (fun b => b < w1.heap.size) (.slice la (oldL ts).length lq) (oldL ts)) := L1.out.k K4.out
    clear hc4 k4
    go_wp2_with fail
    refine (place_is (j : Int) at_ 15 _ (by omega) (by omega) HAT.out HPP.out).mono ?_
    rintro x w5 ⟨rfl, rfl⟩
    have hK15 : 1 ≤ (s : Int) ∧ (s : Int) ≤ 15 := by have := HK.out; omega
    have cv : (convert 38 38 (.slice (some ⟨w5.heap.size, 0, none⟩) 4 4)).run Try.prog (w5.alloc (.cells #[.int .u8 115, .int .u8 110, .int .u8 97, .int .u8 112] 5)) = .ok (.slice (some ⟨w5.heap.size, 0, none⟩) 4 4) (w5.alloc (.cells #[.int .u8 115, .int .u8 110, .int .u8 97, .int .u8 112] 5 (4, 5))) :=
      Go.Lib.run_convert_bytes_const w5 38 5 #[.int .u8 115, .int .u8 110, .int .u8 97, .int .u8 112] 4 4 Try.underlying38 Try.underlying5
    go_wp2_with fail
    have HW6 : Hid (∃ w6, w6 = w5.alloc (.cells #[.int .u8 115, .int .u8 110, .int .u8 97, .int .u8 112] 5 (4, 5)) ∧ Keeps [] w5 w6 ∧ BytesAt w6 (Off n lv) (.slice (some ⟨w5.heap.size, 0, none⟩) 4 4) snapB) := by
      have off : Off n lv w5.heap.size := ⟨fun hb => by have := C4.out.lt n (by simp); omega, fun hb => by have := C4.out.lt _ (List.mem_cons_of_mem _ hb); omega⟩
      refine ⟨_, rfl, (Keeps.refl [] w5).alloc _, ?_, fun _ b hb => ?_⟩
      · exact Reads.ofBlock (n := 4) (size := 1) (heap_alloc_new w5 (.cells #[.int .u8 115, .int .u8 110, .int .u8 97, .int .u8 112] 5 (4, 5))) rfl (by unfold maxLen; omega)
      · have : b = w5.heap.size := by simpa [mem_ownB, Value.ownBlock, eq_comm] using hb
        rw [this]; exact off
    obtain ⟨w6, hw6, k6, hb6⟩ := HW6.out
    rw [← hw6]
    have C6 : Hid (CoreAt w6 w3.heap.size n (keepC ts) lv sv) := C4.out.k k6
    have K6 : Hid (Keeps [] w1 w6) := K4.out.trans k6 (fun _ _ h => h)
    have HB6 := hid hb6
    clear hw6 k6 hb6 HW6 cv
    refine (hear_but w6 _ n (keepC ts) lv sv (snapM (s : Int) 5) none (some ⟨w5.heap.size, 0, none⟩) 0 4 C6.out (ListAt.nil _ _ _ _) HB6.out (by show (4 : Nat) ≤ _; omega) (by show (0 : Int) + ((oldL ts).length : Int) + 1 ≤ _; omega) (fun _ h3 => by cases h3)).mono ?_
    rintro x w7 hp
    rw [HH.out] at hp
    obtain ⟨ra, rq, lv', sv', rfl, hc7, hms, hk7, hv7⟩ := hp
    have hls := hms.list
    obtain ⟨g2, off2, q2, ha2, _, _, _, _⟩ := hls.addr (by simp)
    simp at ha2
    obtain ⟨ha2, hq2⟩ := ha2
    subst ha2
    subst hq2
    obtain ⟨cs2, ⟨ev2, dv2, rfl, _⟩, hcs2⟩ := hls.get (i := 0) rfl
    have m4 : w7.cell? ⟨g2, off2 + 4, none⟩ = some (.int .i64 (s : Int)) := hcs2 4 _ rfl
    have m7 : w7.cell? ⟨g2, off2 + 7, none⟩ = some (.bool true) := hcs2 7 _ rfl
    have C7 : Hid (CoreAt w7 w3.heap.size n c2 lv' sv') := hc7
    have K7 : Hid (Keeps [] w1 w7) := K6.out.trans hk7 (fun b hb hb' => by have := (C6.out.lt _ hb').1; have := K3.out.size; omega)
    clear hls hms hcs2 hc7 hk7 hv7
    go_wp2_with fail
    refine (cBase_is _ _ n c2 lv' sv' C7.out (s : Int) 5 HI.out.base HI.out.baseTerm).mono ?_
    rintro x w8 ⟨rfl, kb, rfl⟩
    go_wp2_with fail
    refine (cCommit_is _ _ n c2 lv' sv' (C7.out.k (by (repeat (first | (with_reducible exact Keeps.refl _ _) | (with_reducible assumption) | ((with_reducible refine Keeps.setCell ?_ ?_ _); rotate_left 1; (· first | (refine .inl ?_; simp; done) | (refine .inr ?_; first | exact Nat.le_refl _ | (simp; done) | (simp; omega) | omega))) | (with_reducible refine Keeps.alloc ?_ _) | (with_reducible refine Keeps.drewN ?_ _) | (with_reducible refine Keeps.drew ?_))))) (s : Int) HI.out.commit).mono ?_
    rintro x w9 ⟨rfl, rfl⟩
    go_wp2_with fail
    refine (cSnapshot_is _ _ n c2 lv' sv' (C7.out.k (by (repeat (first | (with_reducible exact Keeps.refl _ _) | (with_reducible assumption) | ((with_reducible refine Keeps.setCell ?_ ?_ _); rotate_left 1; (· first | (refine .inl ?_; simp; done) | (refine .inr ?_; first | exact Nat.le_refl _ | (simp; done) | (simp; omega) | omega))) | (with_reducible refine Keeps.alloc ?_ _) | (with_reducible refine Keeps.drewN ?_ _) | (with_reducible refine Keeps.drew ?_))))) snapB HI.out.snap).mono ?_
    rintro x w9 ⟨sa, sc, rfl, ho9, k9⟩
    have cv9 : (convert 38 9 (.slice sa snapB.length sc)).run Try.prog w9 = .ok (.string (str snapB)) w9 := conv_str (Reads.ofOwn ho9)
    have K9 : Hid (Keeps [] w7 w9) := Keeps.trans (by (repeat (first | (with_reducible exact Keeps.refl _ _) | (with_reducible assumption) | ((with_reducible refine Keeps.setCell ?_ ?_ _); rotate_left 1; (· first | (refine .inl ?_; simp; done) | (refine .inr ?_; first | exact Nat.le_refl _ | (simp; done) | (simp; omega) | omega))) | (with_reducible refine Keeps.alloc ?_ _) | (with_reducible refine Keeps.drewN ?_ _) | (with_reducible refine Keeps.drew ?_)))) k9 (fun _ _ h => h)
    clear ho9 k9
    go_wp2_with fail
    refine (changes_is _ _ n c2 lv' sv' (C7.out.k K9.out) false true 0 HI.out.hard HI.out.frm HI.out.tsnap rfl).mono ?_
    rintro x w10 ⟨rfl, hc10, hk10⟩
    have C10 : Hid (CoreAt w10 w3.heap.size n (changesD c2).1 lv' sv') := hc10
    have K10 : Hid (Keeps [] w1 w10) := (K7.out.trans K9.out (fun _ _ h => h)).trans hk10 (fun b hb hb' => by simp at hb'; have := (C7.out.lt n (by simp)).1; have := K3.out.size; omega)
    have HLS : Hid (lastD (changesD c2).1 = (s : Int)) := by
      show c2.base + (c2.l.length : Int) = _
      rw [HI.out.base, HL2.out]
      simp
    have HFR : Hid (fromD (changesD c2).1 0 = []) := by
      show c2.l.drop (max 0 (c2.base + 1) - c2.base - 1).toNat = _
      rw [HL2.out]
      simp
    clear hc10 hk10
    go_wp2_with fail
    refine (cLast_is _ _ n (changesD c2).1 lv' sv' C10.out (s : Int) HLS.out).mono ?_
    rintro x w11 ⟨rfl, kl, rfl⟩
    go_wp2_with fail
    refine (cFrom_is _ _ n (changesD c2).1 lv' sv' (C10.out.k (by (repeat (first | (with_reducible exact Keeps.refl _ _) | (with_reducible assumption) | ((with_reducible refine Keeps.setCell ?_ ?_ _); rotate_left 1; (· first | (refine .inl ?_; simp; done) | (refine .inr ?_; first | exact Nat.le_refl _ | (simp; done) | (simp; omega) | omega))) | (with_reducible refine Keeps.alloc ?_ _) | (with_reducible refine Keeps.drewN ?_ _) | (with_reducible refine Keeps.drew ?_))))) 0 [] 0 HFR.out rfl (by omega) (by omega)).mono ?_
    rintro x w12 ⟨fa, fq, rfl, hl12, hk12⟩
    have K12 : Hid (Keeps [] w10 w12) := Keeps.trans (by (repeat (first | (with_reducible exact Keeps.refl _ _) | (with_reducible assumption) | ((with_reducible refine Keeps.setCell ?_ ?_ _); rotate_left 1; (· first | (refine .inl ?_; simp; done) | (refine .inr ?_; first | exact Nat.le_refl _ | (simp; done) | (simp; omega) | omega))) | (with_reducible refine Keeps.alloc ?_ _) | (with_reducible refine Keeps.drewN ?_ _) | (with_reducible refine Keeps.drew ?_)))) hk12 (fun _ _ h => h)
    clear hl12 hk12
    go_wp2_with fail
    refine (cAwake_any _).mono ?_
    rintro x w14 ⟨rfl, hk14⟩
    have K14 : Hid (Keeps [] w10 w14) := K12.out.trans (Keeps.trans (by (repeat (first | (with_reducible exact Keeps.refl _ _) | (with_reducible assumption) | ((with_reducible refine Keeps.setCell ?_ ?_ _); rotate_left 1; (· first | (refine .inl ?_; simp; done) | (refine .inr ?_; first | exact Nat.le_refl _ | (simp; done) | (simp; omega) | omega))) | (with_reducible refine Keeps.alloc ?_ _) | (with_reducible refine Keeps.drewN ?_ _) | (with_reducible refine Keeps.drew ?_)))) hk14 (fun _ _ h => h)) (fun _ _ h => h)
    clear hk14
    go_wp2_with fail
    go_ret
    exact ⟨rfl, Keeps.below ((K1.out.trans K10.out (fun _ _ h => h)).trans K14.out (fun _ _ h => h)) (Nat.le_refl _) (fun _ h => by cases h)⟩

end Go.Proofs.Ytpppoajnbhipeaa
