/- The document's core: lead. -/
import Derived.Test.YtpppoajnbhipeaaRefE
namespace Go.Proofs.Ytpppoajnbhipeaa
open Go Go.RowKit

/-- The places 1 to k all one number. -/
def setTo (l : List Int) (v : Int) : Nat → List Int
  | 0 => l
  | k + 1 => (setTo l v k).set (k + 1) v
theorem setTo_len (l : List Int) (v : Int) : ∀ k, (setTo l v k).length = l.length
  | 0 => rfl
  | k + 1 => by rw [setTo, List.length_set, setTo_len l v k]
theorem setTo_mem {l : List Int} {v x : Int} : ∀ {k}, x ∈ setTo l v k → x ∈ l ∨ x = v
  | 0, h => .inl h
  | k + 1, h => by
    rw [setTo] at h
    rcases List.mem_or_eq_of_mem_set h with h | h
    · exact setTo_mem h
    · exact .inr h
theorem setTo_get {l : List Int} {v : Int} : ∀ {k i : Nat}, 1 ≤ i → i ≤ k → k < l.length → (setTo l v k).getD i 0 = v
  | 0, i, h1, h2, _ => by omega
  | k + 1, i, h1, h2, h3 => by
    rw [setTo]
    by_cases e : k + 1 = i
    · subst e
      simp [List.getD_eq_getElem?_getD, setTo_len, h3]
    · have := setTo_get (l := l) (v := v) (k := k) (i := i) h1 (by omega) (by omega)
      rw [List.getD_eq_getElem?_getD, List.getElem?_set_ne e, ← List.getD_eq_getElem?_getD]
      exact this

/-- It leads: behind k places. -/
def rlead0 (c : CoreD) (k : Nat) : CoreD := { c with role := 2, leader := c.id, patience := 0, next := setTo c.next (lastD c + 1) k, matc := setTo c.matc 0 k }
def rleadE (c : CoreD) : Ent := { term := c.term, cmd := false, data := [] }
def rleadD (c : CoreD) : CoreD := if c.l.length < 5096 then putD (rlead0 c c.conf.nodes.toNat) (rleadE c) else rlead0 c c.conf.nodes.toNat
theorem rlead0_ok {c : CoreD} (h : CoreOk c) (k : Nat) : CoreOk (rlead0 c k) :=
  { may := h.may, id := h.id, term := h.term, base := h.base, baseTerm := h.baseTerm, len := h.len, last := h.last, commit := h.commit, draw := h.draw, votes := h.votes, next := by show (setTo _ _ _).length = 8; rw [setTo_len]; exact h.next, matc := by show (setTo _ _ _).length = 8; rw [setTo_len]; exact h.matc,
    nexts := fun x hx => by
      rcases setTo_mem hx with h1 | h1
      · exact h.nexts x h1
      · have := h.base; have := h.last; unfold lastD at h1; omega
    matcs := fun x hx => by
      rcases setTo_mem hx with h1 | h1
      · exact h.matcs x h1
      · omega
    ents := h.ents, frm := h.frm, data := h.data, snap := h.snap }

theorem RefAt.relog {w w1 : World} {B n : Nat} {c : CoreD} {P R : Nat → Prop} {lv sv lv' : Value} {l' : List Ent} (h : RefAt w B n c P lv sv) (k : Keeps [] w w1) (hR : ∀ b, P b → R b) (hn : ¬ R n) (hl : ListAt entL w1 R lv' l') (ok : CoreOk { c with l := l' }) :
    RefAt (w1.setCell ⟨n, 18, none⟩ lv') B n { c with l := l' } R lv' sv ∧ Keeps [n] w (w1.setCell ⟨n, 18, none⟩ lv') := by
  have kb : Keeps [n] w1 (w1.setCell ⟨n, 18, none⟩ lv') := (Keeps.refl _ _).setCell (.inl (by simp)) _
  have off : ∀ b, R b → b ∉ [n] := fun b hb hb' => by
    rw [List.mem_singleton] at hb'
    exact hn (hb' ▸ hb)
  refine ⟨{ blk := ((h.blk.keep k (by simp)).set (c' := { c with l := l' }) (lv' := lv') (sv' := sv) 18 lv' rfl), log := hl.keep kb off, snap := ((h.snap.k k).mono (fun b _ hb => hR b hb)).keep kb off, apart := hn, base := h.base, ok := ok }, (k.mono (G := [n]) (fun _ _ h => by cases h)).trans kb (fun _ _ h => h)⟩

theorem RefBlk.next {w : World} {n : Nat} {c : CoreD} {lv sv : Value} (h : RefBlk w n c lv sv) (h1 : c.votes.length = 8) (h2 : c.next.length = 8) (i : Nat) (hi : i < 8) (b : Int) : RefBlk (w.setCell ⟨n, 29 + i, none⟩ (.int .i64 b)) n { c with next := c.next.set i b } lv sv :=
  h.set (29 + i) _ (by rw [show 29 + i = 21 + (8 + i) by omega, rset21, rtail_next c h1 h2 i hi]; rfl)
theorem RefBlk.matc {w : World} {n : Nat} {c : CoreD} {lv sv : Value} (h : RefBlk w n c lv sv) (h1 : c.votes.length = 8) (h2 : c.next.length = 8) (h3 : c.matc.length = 8) (i : Nat) (hi : i < 8) (b : Int) : RefBlk (w.setCell ⟨n, 37 + i, none⟩ (.int .i64 b)) n { c with matc := c.matc.set i b } lv sv :=
  h.set (37 + i) _ (by rw [show 37 + i = 21 + (16 + i) by omega, rset21, rtail_matc c h1 h2 h3 i hi]; rfl)
theorem RefBlk.vote {w : World} {n : Nat} {c : CoreD} {lv sv : Value} (h : RefBlk w n c lv sv) (h1 : c.votes.length = 8) (i : Nat) (hi : i < 8) (b : Bool) : RefBlk (w.setCell ⟨n, 21 + i, none⟩ (.bool b)) n { c with votes := c.votes.set i b } lv sv :=
  h.set (21 + i) _ (by rw [rset21, rtail_votes c h1 i hi]; rfl)

set_option maxRecDepth 100000 in
set_option maxHeartbeats 3200000 in
theorem rlead_any (w : World) (B n : Nat) (c : CoreD) (P : Nat → Prop) (lv sv : Value) (h : RefAt w B n c P lv sv) (hP : ∀ b, P b → b < w.heap.size) (hll : lastD c + 1 ≤ 2199023255552) :
    Calls Try.prog 89 #[.pointer (some ⟨n, 0, none⟩)] w (RCallPost B n P (rleadD c, othersD (rleadD c) (sendD (rleadD c))) w) := by
  obtain ⟨it, hi0, hz0, hz1, hz2⟩ := info_parts Try.infoEnt
  have hm := (ConfD.may_iff c.conf).1 h.ok.may
  have h9 : w.cell? ⟨n, 9, none⟩ = some (.int .i64 c.id) := h.blk.cell 9
  have h12 : w.cell? ⟨n, 12, none⟩ = some (.int .i64 c.role) := h.blk.cell 12
  have h13 : w.cell? ⟨n, 13, none⟩ = some (.int .i64 c.leader) := h.blk.cell 13
  have h19 : w.cell? ⟨n, 19, none⟩ = some (.int .i64 c.patience) := h.blk.cell 19
  have fz : ∀ i, w.frozen? ⟨n, i, none⟩ = false := fun i => h.blk.free i
  have hlt := h.blk.lt
  have HPB := hid hP
  have n2 := hm.1.2
  have n1 := hm.1.1
  have HN : Hid ((c.conf.nodes.toNat : Int) = c.conf.nodes) := by show _ = _; omega
  have H := hid h
  have b0 := h.ok.base
  have hlb : 0 ≤ lastD c := by unfold lastD; omega
  obtain ⟨L, hL⟩ : ∃ L, lastD c = L := ⟨_, rfl⟩
  have HL := hid hL
  rw [hL] at hlb hll
  have wr1 : IntKind.i64.wrap (L + 1) = L + 1 := IntWalk.i64_in _ (by omega)
  clear h hm hP hL b0
  go_enter Try.func89, Try.ntmps89
  go_wp2_with fail
  go_loopw [3] (fun i wr => ∃ k : Nat, k ≤ c.conf.nodes.toNat ∧ i = .int .i64 ((k : Int) + 1) ∧ Hid (RefAt wr B n (rlead0 c k) P lv sv ∧ Keeps [n] w wr)) (fun i _ => (c.conf.nodes + 1 - intOf i).toNat)
  case atStart =>
    refine ⟨0, Nat.zero_le _, rfl, ?_, ?_⟩
    · have b1 := H.out.blk.set (c' := { c with role := 2 }) (lv' := lv) (sv' := sv) 12 (.int .i64 2) rfl
      have b2 := b1.set (c' := { c with role := 2, leader := c.id }) (lv' := lv) (sv' := sv) 13 (.int .i64 c.id) rfl
      have b3 := b2.set (c' := rlead0 c 0) (lv' := lv) (sv' := sv) 19 (.int .i64 0) rfl
      exact H.out.wrote (by exact Keeps.K) b3 rfl rfl (rlead0_ok H.out.ok 0)
    · exact Keeps.K
  case round =>
    obtain ⟨k, hk, rfl, HW⟩ := hrel
    have i0 : (0 : Int) ≤ (k : Int) := Int.natCast_nonneg _
    have x0 : wr.cell? ⟨n, 0, none⟩ = some (.int .i64 c.conf.nodes) := HW.out.1.blk.cell 0
    have hnr := HW.out.1.blk.lt
    by_cases hlt' : k < c.conf.nodes.toNat
    · obtain ⟨i, hi⟩ : ∃ i : Int, (k : Int) + 1 = i := ⟨_, rfl⟩
      rw [hi]
      have hle : i ≤ c.conf.nodes := by have := HN.out; omega
      have t0 : 0 ≤ i := by omega
      have t8 : i < 8 := by omega
      have ti : i.toNat = k + 1 := by omega
      have ht8 : i.toNat < 8 := by omega
      have xn := rnext_cell HW.out.1.blk HW.out.1.ok.votes HW.out.1.ok.next i.toNat ht8
      have xm := rmatc_cell HW.out.1.blk HW.out.1.ok.votes HW.out.1.ok.next HW.out.1.ok.matc i.toNat ht8
      have fn : wr.frozen? ⟨n, 29 + i.toNat, none⟩ = false := HW.out.1.blk.free _
      have fm : wr.frozen? ⟨n, 37 + i.toNat, none⟩ = false := HW.out.1.blk.free _
      have hnm : ¬ (29 + i.toNat = 37 + i.toNat) := by omega
      have HI := hid hi
      have HTI := hid ti
      clear hi ti i0
      go_wp2_with fail
      refine Plan.wp_region_plan (fun wx => True) 9 [(true, 0), (true, 1), (true, 2), (true, 5), (true, 6), (false, 3), (true, 4), (true, 7), (false, 8)] (by kernel_rfl) (by as_aux_lemma => kernel_rfl) (by kernel_rfl) (fun _ _ _ _ _ h => h) ?_ (fun hS => ?_)
      (· trivial)
      simp only [Plan.pick, List.append_eq, List.cons_append, List.nil_append, Plan.g1, Plan.g2, Option.getD_some, List.drop_succ_cons, List.drop_zero]
      iterate 5 (first | refine Plan.tA ?_ | refine Plan.tY ?_ | refine Plan.pN ?_ | refine Plan.pU ?_ | fail)
      refine Plan.step ?_
      go_wp2_with fail
      refine (rLast_is _ B n _ P lv sv (HW.out.1.k (by exact Keeps.K)) L HL.out).mono ?_
      rintro e w' ⟨rfl, kk, rfl⟩
      go_wp2_with fail
      refine ⟨trivial, ?_⟩
      iterate 2 (first | refine Plan.tA ?_ | refine Plan.tY ?_ | refine Plan.pN ?_ | refine Plan.pU ?_ | fail)
      refine Plan.step ?_
      go_wp2_with fail
      refine ⟨trivial, ?_⟩
      refine Plan.fin ?_
      go_wp2_with fail
      go_roundw
      case rel =>
        refine ⟨k + 1, by omega, by rw [← HI.out]; go_num, ?_, ?_⟩
        · have r0 := HW.out.1.k ((Keeps.refl [] wr).drewN (1 + kk))
          have b1 := r0.blk.next r0.ok.votes r0.ok.next i.toNat ht8 (L + 1)
          have b2 := b1.matc r0.ok.votes (by show (List.set _ _ _).length = 8; rw [List.length_set]; exact r0.ok.next) r0.ok.matc i.toNat ht8 0
          have e : rlead0 c (k + 1) = { rlead0 c k with next := (rlead0 c k).next.set i.toNat (L + 1), matc := (rlead0 c k).matc.set i.toNat 0 } := by
            rw [HTI.out, ← HL.out]
            rfl
          rw [e]
          exact r0.wrote (((Keeps.refl _ _).setCell (.inl (by simp)) _).setCell (.inl (by simp)) _) b2 rfl rfl (by rw [← e]; exact rlead0_ok H.out.ok _)
        · exact ((HW.out.2.drewN _).setCell (.inl (by simp)) _).setCell (.inl (by simp)) _
      case measure => simp [intOf]; omega
    · have hkn : k = c.conf.nodes.toNat := by omega
      have hge : c.conf.nodes < (k : Int) + 1 := by have := HN.out; omega
      have HR : Hid (RefAt wr B n (rlead0 c c.conf.nodes.toNat) P lv sv) := by rw [← hkn]; exact HW.out.1
      have HK := hid HW.out.2
      obtain ⟨la, lc, hlv⟩ := HR.out.form
      have x18 : wr.cell? ⟨n, 18, none⟩ = some (.slice la c.l.length lc) := (HR.out.blk.cell 18).trans (by rw [hlv]; rfl)
      have f18 : wr.frozen? ⟨n, 18, none⟩ = false := HR.out.blk.free 18
      have x10 : wr.cell? ⟨n, 10, none⟩ = some (.int .i64 c.term) := HR.out.blk.cell 10
      have hl5 := HR.out.ok.len
      have hl5' : c.l.length ≤ 5096 := hl5
      have HLS : Hid (lv = .slice la c.l.length lc) := hlv
      clear hkn HW hlv hl5
      by_cases hlen : c.l.length < 5096
      · have g1 : (c.l.length : Int) < 5096 := by omega
        obtain ⟨css, hel, hrd, _⟩ := HR.out.log
        rw [HLS.out] at hrd
        have HEL : Hid (ElemsAt entL wr P css c.l) := hel
        have HRD : Hid (Reads wr 3 (.slice la c.l.length lc) c.l.length css.flatten) := hrd
        clear hel hrd
        go_wp2_with fail
        refine Plan.wp_region_tree (fun wx => wx.cell? ⟨n, 18, none⟩ = some (.slice la c.l.length lc) ∧ wx.cell? ⟨n, 10, none⟩ = some (.int .i64 c.term)) 13 (.take 0 (.take 1 (.take 2 (.take 3 (.take 4 (.take 6 (.take 7 (.take 8 (.take 9 (.take 10 (.fork 5 11 (.step 11 (.step 12 .fin)) (.step 5 (.step 12 .fin))))))))))))) (by kernel_rfl) (by as_aux_lemma => kernel_rfl) (by kernel_rfl) (fun _ _ _ _ _ h => h) ?_ (fun hS => ?_)
        (· exact ⟨x18, x10⟩)
        simp only [Plan.pickT, List.append_eq, List.cons_append, List.nil_append, Plan.g1, Plan.g2, Option.getD_some, List.drop_succ_cons, List.drop_zero]
        iterate 10 (refine Plan.takeT (v := ?_) (a' := ?_) (Plan.want_all (by rfl)) ?_ ?_ ?_; rotate_left 2; (· intro w' hS'; (try dsimp only at hS'); go_simp; try with_reducible rfl); (· simp only [Act.put, Plan.l1, Plan.l2, Plan.l3]; try with_reducible rfl))
        have HEN : Hid (∀ wx : World, entL.at_ wx (fun _ => False) [.int .i64 c.term, .bool false, .slice none 0 0] (rleadE c)) := fun wx => ⟨_, rfl, BytesAt.nil _ _ _ _⟩
        refine Plan.forkT ?_ ?_
        · go_wp2_with (at_builtin; go_must (refine wpList_append_off (L := entL) (PB := P) _ (by rfl) _ _ _ (by rfl) wr.heap.size 59 it _ 40 Try.underlying35 hi0 hz0 hz1 hz2 rfl (R := fun b => P b ∨ wr.heap.size ≤ b) (.slice none 0 0) (by rfl) [] c.l 0 rfl css (OwnAt.nil _ _ _ _) (.slice la c.l.length lc) (by rfl) c.l.length rfl (HEL.out.keep ((Keeps.refl [] wr).drew) (fun _ _ h => by cases h)) (HRD.out.keeps ((Keeps.refl [] wr).drew) (fun _ _ h => by cases h)) (by omega) (le_maxLen (by omega)) (by exact Nat.le_refl _) (fun b _ hb => ⟨.inl hb, fun h => by simp [mem_ownB, Value.ownBlock] at h⟩) ?_; intro a4 q4 w4 ho4 hk4 hv4; rw [Nat.zero_add] at ho4 hv4 ⊢))
          have K4 : Hid (Keeps [] wr w4) := ((Keeps.refl [] wr).drew).trans (hk4.out.mono (G := []) (fun b _ hb => by simp [mem_ownB, Value.ownBlock] at hb)) (fun _ _ h => h)
          have y18 := K4.out.cellSome x18 (by simp)
          have y10 := K4.out.cellSome x10 (by simp)
          have hn4 : n < w4.heap.size := Nat.lt_of_lt_of_le hnr K4.out.size
          have HN4 : Hid (wr.heap.size ≤ w4.heap.size) := K4.out.size
          refine ⟨⟨y18, y10⟩, ?_⟩
          refine Plan.stepT ?_
          go_wp2_with fail
          refine ⟨?_, ?_⟩
          (· go_simp)
          refine Plan.stepT ?_
          have HNW : Hid ((w4.alloc (.cells #[.int .i64 c.term, .bool false, .slice none 0 0] 59)).heap[w4.heap.size]? = some (.cells #[.int .i64 c.term, .bool false, .slice none 0 0] 59 (0, 0))) := heap_alloc_new _ _
          have KA : Hid (Keeps [] w4 (w4.alloc (.cells #[.int .i64 c.term, .bool false, .slice none 0 0] 59))) := (Keeps.refl [] w4).alloc _
          go_wp2_with (at_builtin; go_must (refine wpList_append_off (L := entL) (PB := fun _ => False) _ (by rfl) _ _ _ (by rfl) wr.heap.size 59 it _ 40 Try.underlying35 hi0 hz0 hz1 hz2 rfl (R := fun b => P b ∨ wr.heap.size ≤ b) (.slice a4 c.l.length q4) (by rfl) c.l [rleadE c] c.l.length rfl [[.int .i64 c.term, .bool false, .slice none 0 0]] (OwnAt.k ho4.out KA.out) (.slice (some ⟨w4.heap.size, 0, none⟩) 1 1) (by rfl) 1 rfl (ElemsAt.one1 (HEN.out _)) (Reads.one1 HNW.out rfl) (by omega) (le_maxLen (by omega)) (Nat.le_trans HN4.out KA.out.size) (fun b _ hb => hb.elim) ?_; intro a5 q5 w5 ho5 hk5 hv5))
          have K5 : Hid (Keeps [] wr w5) := (K4.out.trans KA.out (fun _ _ h => h)).trans hk5.out (fun b hb hb' => by have := (OwnAt.ge ho4.out b hb').1; omega)
          clear hk4 hv4 y18 y10 HNW KA ho4 hk5 hv5 hn4 HN4 K4
          have z18 := K5.out.cellSome x18 (by simp)
          have z10 := K5.out.cellSome x10 (by simp)
          have e18 : w5.frozen? ⟨n, 18, none⟩ = false := (K5.out.frozen (a := ⟨n, 18, none⟩) hnr (by simp)).trans f18
          have hn5 : n < w5.heap.size := Nat.lt_of_lt_of_le hnr K5.out.size
          have HX : Hid (∃ w6, w6 = w5.setCell ⟨n, 18, none⟩ (.slice a5 (c.l.length + 1) q5) ∧ RefAt w6 B n { rlead0 c c.conf.nodes.toNat with l := c.l ++ [rleadE c] } (Gr P w w6) (.slice a5 (c.l.length + 1) q5) sv ∧ Keeps [n] w w6) := by
            obtain ⟨r1, k1⟩ := HR.out.relog (l' := c.l ++ [rleadE c]) (lv' := .slice a5 (c.l.length + 1) q5) (R := fun b => P b ∨ wr.heap.size ≤ b) K5.out (fun _ h => .inl h) (fun hb => by
              rcases hb with hb | hb
              · exact HR.out.apart hb
              · omega) (OwnAt.list ho5.out (fun _ _ h => h.1) (fun b hb => .inr (OwnAt.ge ho5.out b hb).1)) (putL_ok (rlead0_ok H.out.ok _) hlen (by show lastD c + 1 ≤ _; rw [HL.out]; exact hll) H.out.ok.term (by show (0 : Nat) ≤ _; omega))
            refine ⟨_, rfl, r1.mono (fun b h1 h2 => ?_) (fun hb => ?_), HK.out.trans k1 (fun _ _ h => h)⟩
            · rcases h2 with h2 | h2
              · exact .inl h2
              · exact .inr ⟨Nat.le_trans HK.out.size h2, h1⟩
            · rcases hb with hb | hb
              · exact HR.out.apart hb
              · omega
          clear x18 f18 x10
          refine ⟨⟨z18, z10⟩, ?_⟩
          refine Plan.finT ?_
          go_wp2_with fail
          obtain ⟨w6, hw6, hc6, hk6⟩ := HX.out
          rw [← hw6]
          have C6 := hid hc6
          have K6 := hid hk6
          clear hw6 hc6 hk6 HX z18 z10 e18
          refine (rLast_is _ B n _ _ _ sv C6.out (L + 1) (by have := HL.out; unfold lastD at this ⊢; show c.base + ((c.l ++ [rleadE c]).length : Int) = _; rw [List.length_append]; simp; omega)).mono ?_
          rintro e w' ⟨rfl, kk, rfl⟩
          go_wp2_with fail
          refine (rturned_any _ B n _ _ _ sv (L + 1) (C6.out.k ((Keeps.refl [] _).drewN kk)) ⟨by omega, by omega⟩).mono ?_
          rintro e w7 ⟨rfl, hc7, hk7⟩
          have C7 : Hid (RefAt w7 B n (putD (rlead0 c c.conf.nodes.toNat) (rleadE c)) (Gr P w w7) (.slice a5 (c.l.length + 1) q5) sv) := by
            have e : turnD { rlead0 c c.conf.nodes.toNat with l := c.l ++ [rleadE c] } (L + 1) = putD (rlead0 c c.conf.nodes.toNat) (rleadE c) := by
              unfold putD
              rw [show lastD (rlead0 c c.conf.nodes.toNat) = L from HL.out]
              rfl
            rw [e] at hc7
            exact hc7.mono (fun b _ hb => Gr.old (Nat.le_trans ((Keeps.refl [] w6).drewN kk).size hk7.size) hb) (fun hb => by
              rcases hb with hb | hb
              · exact HR.out.apart hb
              · omega)
          have K7 : Hid (Keeps [n] w w7) := (K6.out.drewN kk).trans hk7 (fun _ _ h => h)
          clear hc7 hk7
          go_wp2_with fail
          refine (rall_any w7 B n _ _ _ sv C7.out (Gr.lt HPB.out K7.out.size)).mono ?_
          rintro x w8 ⟨a, q, rfl, hf, hk8⟩
          have HD : Hid (rleadD c = putD (rlead0 c c.conf.nodes.toNat) (rleadE c)) := by show _ = _; unfold rleadD; rw [if_pos hlen]
          have HP : Hid (RMsgsPost (othersD (putD (rlead0 c c.conf.nodes.toNat) (rleadE c)) (sendD (putD (rlead0 c c.conf.nodes.toNat) (rleadE c)))) (Gr P w w7) w7 (.returned (.slice a (othersD (putD (rlead0 c c.conf.nodes.toNat) (rleadE c)) (sendD (putD (rlead0 c c.conf.nodes.toNat) (rleadE c)))).length q)) w8) := ⟨a, q, rfl, hf, hk8⟩
          clear hf hk8
          go_wp2_with fail
          go_ret
          rw [HD.out]
          exact RCallPost.tells C7.out hlt K7.out HP.out
        · go_wp2_with fail
          refine ⟨?_, ?_⟩
          (· go_simp)
          refine Plan.stepT ?_
          have KA : Hid (Keeps [] wr ((wr.alloc (.cells #[.int .i64 c.term, .bool false, .slice none 0 0] 59)).drew)) := ((Keeps.refl [] wr).alloc _).drew
          have HNW : Hid (((wr.alloc (.cells #[.int .i64 c.term, .bool false, .slice none 0 0] 59)).drew).heap[wr.heap.size]? = some (.cells #[.int .i64 c.term, .bool false, .slice none 0 0] 59 (0, 0))) := (((Keeps.refl [] _).drew).block wr.heap.size (by simp) (by simp)).trans (heap_alloc_new wr _)
          go_wp2_with (at_builtin; go_must (refine wpList_append_off (L := entL) (PB := P) _ (by rfl) _ _ _ (by rfl) wr.heap.size 59 it _ 40 Try.underlying35 hi0 hz0 hz1 hz2 rfl (R := fun b => P b ∨ wr.heap.size ≤ b) (.slice none 0 0) (by rfl) [] c.l 0 rfl css (OwnAt.nil _ _ _ _) (.slice la c.l.length lc) (by rfl) c.l.length rfl (HEL.out.keep KA.out (fun _ _ h => by cases h)) (HRD.out.keeps KA.out (fun _ _ h => by cases h)) (by omega) (le_maxLen (by omega)) (KA.out.size) (fun b _ hb => ⟨.inl hb, fun h => by simp [mem_ownB, Value.ownBlock] at h⟩) ?_; intro a4 q4 w4 ho4 hk4 hv4; rw [Nat.zero_add] at ho4 hv4 ⊢))
          have K04 : Hid (Keeps [] ((wr.alloc (.cells #[.int .i64 c.term, .bool false, .slice none 0 0] 59)).drew) w4) := hk4.out.mono (G := []) (fun b _ hb => by simp [mem_ownB, Value.ownBlock] at hb)
          have K4 : Hid (Keeps [] wr w4) := KA.out.trans K04.out (fun _ _ h => h)
          have HN2 : Hid (w4.heap[wr.heap.size]? = some (.cells #[.int .i64 c.term, .bool false, .slice none 0 0] 59 (0, 0))) := (K04.out.block wr.heap.size (Array.getElem?_eq_some_iff.1 HNW.out).1 (by simp)).trans HNW.out
          have y18 := K4.out.cellSome x18 (by simp)
          have y10 := K4.out.cellSome x10 (by simp)
          have hn4 : n < w4.heap.size := Nat.lt_of_lt_of_le hnr K4.out.size
          refine ⟨⟨y18, y10⟩, ?_⟩
          refine Plan.stepT ?_
          go_wp2_with (at_builtin; go_must (refine wpList_append_off (L := entL) (PB := fun _ => False) _ (by rfl) _ _ _ (by rfl) wr.heap.size 59 it _ 40 Try.underlying35 hi0 hz0 hz1 hz2 rfl (R := fun b => P b ∨ wr.heap.size ≤ b) (.slice a4 c.l.length q4) (by rfl) c.l [rleadE c] c.l.length rfl [[.int .i64 c.term, .bool false, .slice none 0 0]] ho4.out (.slice (some ⟨wr.heap.size, 0, none⟩) 1 1) (by rfl) 1 rfl (ElemsAt.one1 (HEN.out _)) (Reads.one1 HN2.out rfl) (by omega) (le_maxLen (by omega)) (K4.out.size) (fun b _ hb => hb.elim) ?_; intro a5 q5 w5 ho5 hk5 hv5))
          have K5 : Hid (Keeps [] wr w5) := K4.out.trans hk5.out (fun b hb hb' => by have := (OwnAt.ge ho4.out b hb').1; omega)
          clear hk4 hv4 y18 y10 HNW KA ho4 hk5 hv5 hn4 HN2 K4 K04
          have z18 := K5.out.cellSome x18 (by simp)
          have z10 := K5.out.cellSome x10 (by simp)
          have e18 : w5.frozen? ⟨n, 18, none⟩ = false := (K5.out.frozen (a := ⟨n, 18, none⟩) hnr (by simp)).trans f18
          have hn5 : n < w5.heap.size := Nat.lt_of_lt_of_le hnr K5.out.size
          have HX : Hid (∃ w6, w6 = w5.setCell ⟨n, 18, none⟩ (.slice a5 (c.l.length + 1) q5) ∧ RefAt w6 B n { rlead0 c c.conf.nodes.toNat with l := c.l ++ [rleadE c] } (Gr P w w6) (.slice a5 (c.l.length + 1) q5) sv ∧ Keeps [n] w w6) := by
            obtain ⟨r1, k1⟩ := HR.out.relog (l' := c.l ++ [rleadE c]) (lv' := .slice a5 (c.l.length + 1) q5) (R := fun b => P b ∨ wr.heap.size ≤ b) K5.out (fun _ h => .inl h) (fun hb => by
              rcases hb with hb | hb
              · exact HR.out.apart hb
              · omega) (OwnAt.list ho5.out (fun _ _ h => h.1) (fun b hb => .inr (OwnAt.ge ho5.out b hb).1)) (putL_ok (rlead0_ok H.out.ok _) hlen (by show lastD c + 1 ≤ _; rw [HL.out]; exact hll) H.out.ok.term (by show (0 : Nat) ≤ _; omega))
            refine ⟨_, rfl, r1.mono (fun b h1 h2 => ?_) (fun hb => ?_), HK.out.trans k1 (fun _ _ h => h)⟩
            · rcases h2 with h2 | h2
              · exact .inl h2
              · exact .inr ⟨Nat.le_trans HK.out.size h2, h1⟩
            · rcases hb with hb | hb
              · exact HR.out.apart hb
              · omega
          clear x18 f18 x10
          refine ⟨⟨z18, z10⟩, ?_⟩
          refine Plan.finT ?_
          go_wp2_with fail
          obtain ⟨w6, hw6, hc6, hk6⟩ := HX.out
          rw [← hw6]
          have C6 := hid hc6
          have K6 := hid hk6
          clear hw6 hc6 hk6 HX z18 z10 e18
          refine (rLast_is _ B n _ _ _ sv C6.out (L + 1) (by have := HL.out; unfold lastD at this ⊢; show c.base + ((c.l ++ [rleadE c]).length : Int) = _; rw [List.length_append]; simp; omega)).mono ?_
          rintro e w' ⟨rfl, kk, rfl⟩
          go_wp2_with fail
          refine (rturned_any _ B n _ _ _ sv (L + 1) (C6.out.k ((Keeps.refl [] _).drewN kk)) ⟨by omega, by omega⟩).mono ?_
          rintro e w7 ⟨rfl, hc7, hk7⟩
          have C7 : Hid (RefAt w7 B n (putD (rlead0 c c.conf.nodes.toNat) (rleadE c)) (Gr P w w7) (.slice a5 (c.l.length + 1) q5) sv) := by
            have e : turnD { rlead0 c c.conf.nodes.toNat with l := c.l ++ [rleadE c] } (L + 1) = putD (rlead0 c c.conf.nodes.toNat) (rleadE c) := by
              unfold putD
              rw [show lastD (rlead0 c c.conf.nodes.toNat) = L from HL.out]
              rfl
            rw [e] at hc7
            exact hc7.mono (fun b _ hb => Gr.old (Nat.le_trans ((Keeps.refl [] w6).drewN kk).size hk7.size) hb) (fun hb => by
              rcases hb with hb | hb
              · exact HR.out.apart hb
              · omega)
          have K7 : Hid (Keeps [n] w w7) := (K6.out.drewN kk).trans hk7 (fun _ _ h => h)
          clear hc7 hk7
          go_wp2_with fail
          refine (rall_any w7 B n _ _ _ sv C7.out (Gr.lt HPB.out K7.out.size)).mono ?_
          rintro x w8 ⟨a, q, rfl, hf, hk8⟩
          have HD : Hid (rleadD c = putD (rlead0 c c.conf.nodes.toNat) (rleadE c)) := by show _ = _; unfold rleadD; rw [if_pos hlen]
          have HP : Hid (RMsgsPost (othersD (putD (rlead0 c c.conf.nodes.toNat) (rleadE c)) (sendD (putD (rlead0 c c.conf.nodes.toNat) (rleadE c)))) (Gr P w w7) w7 (.returned (.slice a (othersD (putD (rlead0 c c.conf.nodes.toNat) (rleadE c)) (sendD (putD (rlead0 c c.conf.nodes.toNat) (rleadE c)))).length q)) w8) := ⟨a, q, rfl, hf, hk8⟩
          clear hf hk8
          go_wp2_with fail
          go_ret
          rw [HD.out]
          exact RCallPost.tells C7.out hlt K7.out HP.out
      · have g1 : ¬ (c.l.length : Int) < 5096 := by omega
        have g2 : decide ((c.l.length : Int) < 5096) = false := by simpa using g1
        have C7 : Hid (RefAt wr B n (rlead0 c c.conf.nodes.toNat) (Gr P w wr) lv sv) := HR.out.toGr hlt
        go_wp2_with fail
        refine (rall_any wr B n _ _ _ sv C7.out (Gr.lt HPB.out HK.out.size)).mono ?_
        rintro x w8 ⟨a, q, rfl, hf, hk8⟩
        have HD : Hid (rleadD c = rlead0 c c.conf.nodes.toNat) := by show _ = _; unfold rleadD; rw [if_neg hlen]
        have HP : Hid (RMsgsPost (othersD (rlead0 c c.conf.nodes.toNat) (sendD (rlead0 c c.conf.nodes.toNat))) (Gr P w wr) wr (.returned (.slice a (othersD (rlead0 c c.conf.nodes.toNat) (sendD (rlead0 c c.conf.nodes.toNat))).length q)) w8) := ⟨a, q, rfl, hf, hk8⟩
        clear hf hk8
        go_wp2_with fail
        go_ret
        rw [HD.out]
        exact RCallPost.tells C7.out hlt HK.out HP.out

end Go.Proofs.Ytpppoajnbhipeaa
