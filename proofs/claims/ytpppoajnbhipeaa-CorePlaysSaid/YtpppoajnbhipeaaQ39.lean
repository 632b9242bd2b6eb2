/- Joined of CoreW, CoreG, LeadD. -/
import Derived.Test.YtpppoajnbhipeaaQ31
import Derived.Test.YtpppoajnbhipeaaQ11
import Derived.Test.YtpppoajnbhipeaaQ30
import Derived.Test.YtpppoajnbhipeaaQ05

/- same: of a core and the document's core that have the same fields. -/
namespace Go.Proofs.Ytpppoajnbhipeaa
open Go Go.RowKit

/-- What 'same' asks of both. -/
structure Alike (c r : CoreD) : Prop where
  term : r.term = c.term
  vote : r.vote = c.vote
  role : r.role = c.role
  leader : r.leader = c.leader
  commit : r.commit = c.commit
  base : r.base = c.base
  baseTerm : r.baseTerm = c.baseTerm
  l : r.l = c.l
  snap : r.snap = c.snap

theorem Alike.last {c r : CoreD} (h : Alike c r) : lastD r = lastD c := by unfold lastD; rw [h.base, h.l]
theorem Alike.at_ {c r : CoreD} (h : Alike c r) (i : Int) : atD r i = atD c i := by unfold atD; rw [h.last, h.base, h.baseTerm, h.l]
theorem Alike.from_ {c r : CoreD} (h : Alike c r) (i : Int) : fromD r i = fromD c i := by unfold fromD; rw [h.base, h.l]

theorem fromD_length (c : CoreD) (i : Int) : (fromD c i).length ≤ c.l.length := by unfold fromD; simp

set_option maxRecDepth 100000 in
set_option maxHeartbeats 32000000 in
theorem same_any (w : World) (B n rn : Nat) (c r : CoreD) (lv sv lv' sv' : Value) (P : Nat → Prop) (h : CoreAt w B n c lv sv) (g : RefAt w B rn r P lv' sv') (ha : Alike c r) :
    Calls Try.prog 16 #[.pointer (some ⟨n, 0, none⟩), .pointer (some ⟨rn, 0, none⟩)] w fun e w' => e = .returned (.bool true) ∧ Keeps [] w w' := by
  have r10 : w.cell? ⟨rn, 10, none⟩ = some (.int .i64 c.term) := by rw [← ha.term]; exact g.blk.cell 10
  have r11 : w.cell? ⟨rn, 11, none⟩ = some (.int .i64 c.vote) := by rw [← ha.vote]; exact g.blk.cell 11
  have r12 : w.cell? ⟨rn, 12, none⟩ = some (.int .i64 c.role) := by rw [← ha.role]; exact g.blk.cell 12
  have r13 : w.cell? ⟨rn, 13, none⟩ = some (.int .i64 c.leader) := by rw [← ha.leader]; exact g.blk.cell 13
  have r14 : w.cell? ⟨rn, 14, none⟩ = some (.int .i64 c.commit) := by rw [← ha.commit]; exact g.blk.cell 14
  have r15 : w.cell? ⟨rn, 15, none⟩ = some (.int .i64 c.base) := by rw [← ha.base]; exact g.blk.cell 15
  have r16 : w.cell? ⟨rn, 16, none⟩ = some (.int .i64 c.baseTerm) := by rw [← ha.baseTerm]; exact g.blk.cell 16
  obtain ⟨sa, sc, hsv⟩ := g.snap.form
  rw [ha.snap] at hsv
  have r17 : w.cell? ⟨rn, 17, none⟩ = some (.slice sa c.snap.length sc) := by rw [← hsv]; exact g.blk.cell 17
  have HSR : Hid (Reads w 1 (.slice sa c.snap.length sc) c.snap.length (u8s c.snap)) := by
    have := g.snap.1
    rw [ha.snap, hsv] at this
    exact this
  have HA := hid ha
  have HC := hid h
  have HR := hid g
  have HRL : Hid (∀ wx, Keeps [] w wx → Calls Try.prog 48 #[.pointer (some ⟨rn, 0, none⟩)] wx fun e w' => e = .returned (.int .i64 (lastD c)) ∧ ∃ k, w' = wx.drewN k) := fun wx k => by
    rw [← HA.out.last]
    exact rLast_any wx B rn r P lv' sv' (HR.out.k k)
  have HCL : Hid (∀ wx, Keeps [] w wx → Calls Try.prog 25 #[.pointer (some ⟨n, 0, none⟩)] wx fun e w' => e = .returned (.int .i64 (lastD c)) ∧ ∃ k, w' = wx.drewN k) := fun wx k => cLast_any wx B n c lv sv (HC.out.k k)
  have cs := conv_str HSR.out
  have HCF : Hid (∀ (wx : World) (i : Int), Keeps [] w wx → -4611686018427387904 ≤ i → i ≤ 4611686018427387904 → Calls Try.prog 28 #[.pointer (some ⟨n, 0, none⟩), .int .i64 i] wx (FromPost (fromD c i) wx)) := fun wx i k b1 b2 => cFrom_any wx B n c lv sv (HC.out.k k) i b1 b2
  have HRF : Hid (∀ (wx : World) (i : Int), Keeps [] w wx → -4611686018427387904 ≤ i → i ≤ 4611686018427387904 → Calls Try.prog 49 #[.pointer (some ⟨rn, 0, none⟩), .int .i64 i] wx (RFromPost (fromD c i) P wx)) := fun wx i k b1 b2 => by
    rw [← HA.out.from_]
    exact rFrom_any wx B rn r P lv' sv' (HR.out.k k) i b1 b2
  have HLB : Hid (∀ i, (fromD c i).length ≤ 100000) := fun i => by have := fromD_length c i; have := HC.out.ok.len; omega
  have lb : 0 ≤ lastD c ∧ lastD c ≤ 2199023255552 := by have := h.ok.base.1; have := h.ok.last; unfold lastD; omega
  obtain ⟨lb1, lb2⟩ := lb
  have HCA : Hid (∀ (wx : World) (i t : Int) (ok : Bool), Keeps [] w wx → -4611686018427387904 ≤ i → i ≤ 4611686018427387904 → atD c i = (t, ok) → Calls Try.prog 24 #[.pointer (some ⟨n, 0, none⟩), .int .i64 i] wx fun e w' => e = .returned (.tuple #[.int .i64 t, .bool ok]) ∧ ∃ k, w' = wx.drewN k) := fun wx i t ok k b1 b2 ht => by
    have := cAt_any wx B n c lv sv (HC.out.k k) i b1 b2
    rwa [ht] at this
  have HRA : Hid (∀ (wx : World) (i t : Int) (ok : Bool), Keeps [] w wx → -4611686018427387904 ≤ i → i ≤ 4611686018427387904 → atD c i = (t, ok) → Calls Try.prog 50 #[.pointer (some ⟨rn, 0, none⟩), .int .i64 i] wx fun e w' => e = .returned (.tuple #[.int .i64 t, .bool ok]) ∧ ∃ k, w' = wx.drewN k) := fun wx i t ok k b1 b2 ht => by
    have := rAt_any wx B rn r P lv' sv' (HR.out.k k) i b1 b2
    rwa [HA.out.at_, ht] at this
  have HRLG : Hid (ListAt entL w P lv' c.l) := by have := g.log; rw [ha.l] at this; exact this
  obtain ⟨la, lc, hlf⟩ := HRLG.out.form
  have r18 : w.cell? ⟨rn, 18, none⟩ = some (.slice la c.l.length lc) := by rw [← hlf]; exact g.blk.cell 18
  rw [hlf] at HRLG
  clear hlf
  have hsl := h.ok.snap
  have o1 := h.ok.base.1
  have o2 := h.ok.last
  have o3 := h.ok.len
  clear h g ha hsv
  go_enter Try.func16, Try.ntmps16
  go_wp2_with fail
  refine (cBase_any _ B n c lv sv HC.out).mono ?_
  rintro e w1 ⟨rfl, k1, rfl⟩
  go_wp2_with fail
  have CV : Hid (∀ wx, Keeps [] w wx → (convert 38 9 (.slice sa c.snap.length sc)).run Try.prog wx = .ok (.string (str c.snap)) wx) := fun wx k => conv_str (HSR.out.keeps k (fun _ _ h => by cases h))
  refine Plan.wp_region_plan (fun w' => w'.cell? ⟨rn, 10, none⟩ = some (.int .i64 c.term) ∧ w'.cell? ⟨rn, 11, none⟩ = some (.int .i64 c.vote) ∧ w'.cell? ⟨rn, 12, none⟩ = some (.int .i64 c.role) ∧ w'.cell? ⟨rn, 13, none⟩ = some (.int .i64 c.leader) ∧ w'.cell? ⟨rn, 14, none⟩ = some (.int .i64 c.commit) ∧ w'.cell? ⟨rn, 15, none⟩ = some (.int .i64 c.base) ∧ w'.cell? ⟨rn, 16, none⟩ = some (.int .i64 c.baseTerm) ∧ w'.cell? ⟨rn, 17, none⟩ = some (.slice sa c.snap.length sc) ∧ (convert 38 9 (.slice sa c.snap.length sc)).run Try.prog w' = .ok (.string (str c.snap)) w') 75 [(true, 0), (true, 2), (true, 3), (true, 4), (true, 5), (false, 1), (true, 6), (true, 7), (true, 8), (true, 10), (true, 11), (true, 12), (true, 13), (false, 9), (true, 14), (true, 15), (true, 16), (true, 17), (true, 19), (true, 20), (true, 21), (true, 22), (false, 18), (true, 23), (true, 24), (true, 25), (true, 26), (true, 28), (true, 29), (true, 30), (true, 31), (false, 27), (true, 32), (true, 33), (true, 34), (true, 35), (true, 37), (true, 38), (true, 39), (true, 40), (false, 36), (true, 41), (true, 42), (true, 43), (true, 44), (true, 45), (true, 46), (true, 47), (true, 48), (true, 49), (true, 50), (true, 51), (true, 52), (true, 53), (true, 54), (true, 55), (true, 56), (true, 57), (true, 58), (true, 59), (true, 60), (true, 62), (false, 61), (false, 63), (true, 64), (true, 65), (true, 66), (true, 67), (true, 70), (true, 71), (true, 72), (true, 73), (true, 74), (false, 68), (false, 69)] (by kernel_rfl) (by as_aux_lemma => kernel_rfl) (by kernel_rfl) (fun _ _ _ _ _ h => h) ?_ (fun hS => ?_)
  (· exact ⟨r10, r11, r12, r13, r14, r15, r16, r17, CV.out _ ((Keeps.refl [] w).drewN k1).drew⟩)
  simp only [Plan.pick, List.append_eq, List.cons_append, List.nil_append, Plan.g1, Plan.g2, Option.getD_some, List.drop_succ_cons, List.drop_zero]
  iterate 5 (first | refine Plan.tA ?_ | refine Plan.tY ?_ | refine Plan.pN ?_ | refine Plan.pU ?_ | fail)
  refine Plan.step ?_
  go_wp2_with fail
  refine (cTerm_any _ B n c lv sv (HC.out.k ((Keeps.refl [] w).drewN k1).drew)).mono ?_
  rintro e w' ⟨rfl, hw'⟩
  subst hw'
  go_wp2_with fail
  refine ⟨⟨r10, r11, r12, r13, r14, r15, r16, r17, CV.out _ ((Keeps.refl [] w).drewN k1).drew⟩, ?_⟩
  iterate 7 (first | refine Plan.tA ?_ | refine Plan.tY ?_ | refine Plan.pN ?_ | refine Plan.pU ?_ | fail)
  refine Plan.step ?_
  go_wp2_with fail
  refine (cVote_any _ B n c lv sv (HC.out.k ((Keeps.refl [] w).drewN k1).drew)).mono ?_
  rintro e w' ⟨rfl, hw'⟩
  subst hw'
  go_wp2_with fail
  refine ⟨⟨r10, r11, r12, r13, r14, r15, r16, r17, CV.out _ ((Keeps.refl [] w).drewN k1).drew⟩, ?_⟩
  iterate 8 (first | refine Plan.tA ?_ | refine Plan.tY ?_ | refine Plan.pN ?_ | refine Plan.pU ?_ | fail)
  refine Plan.step ?_
  go_wp2_with fail
  refine (cRole_any _ B n c lv sv (HC.out.k ((Keeps.refl [] w).drewN k1).drew)).mono ?_
  rintro e w' ⟨rfl, hw'⟩
  subst hw'
  go_wp2_with fail
  refine ⟨⟨r10, r11, r12, r13, r14, r15, r16, r17, CV.out _ ((Keeps.refl [] w).drewN k1).drew⟩, ?_⟩
  iterate 8 (first | refine Plan.tA ?_ | refine Plan.tY ?_ | refine Plan.pN ?_ | refine Plan.pU ?_ | fail)
  refine Plan.step ?_
  go_wp2_with fail
  refine (cLeader_any _ B n c lv sv (HC.out.k ((Keeps.refl [] w).drewN k1).drew)).mono ?_
  rintro e w' ⟨rfl, hw'⟩
  subst hw'
  go_wp2_with fail
  refine ⟨⟨r10, r11, r12, r13, r14, r15, r16, r17, CV.out _ ((Keeps.refl [] w).drewN k1).drew⟩, ?_⟩
  iterate 8 (first | refine Plan.tA ?_ | refine Plan.tY ?_ | refine Plan.pN ?_ | refine Plan.pU ?_ | fail)
  refine Plan.step ?_
  go_wp2_with fail
  refine (cCommit_any _ B n c lv sv (HC.out.k ((Keeps.refl [] w).drewN k1).drew)).mono ?_
  rintro e w' ⟨rfl, hw'⟩
  subst hw'
  go_wp2_with fail
  refine ⟨⟨r10, r11, r12, r13, r14, r15, r16, r17, CV.out _ ((Keeps.refl [] w).drewN k1).drew⟩, ?_⟩
  iterate 21 (first | refine Plan.tA ?_ | refine Plan.tY ?_ | refine Plan.pN ?_ | refine Plan.pU ?_ | fail)
  refine Plan.step ?_
  go_wp2_with fail
  refine (HCL.out _ ((Keeps.refl [] w).drewN k1).drew).mono ?_
  rintro e w' ⟨rfl, k2, rfl⟩
  go_wp2_with fail
  refine ⟨⟨r10, r11, r12, r13, r14, r15, r16, r17, CV.out _ ((Keeps.refl [] w).drewN _)⟩, ?_⟩
  refine Plan.step ?_
  go_wp2_with fail
  refine (HRL.out _ ((Keeps.refl [] w).drewN _)).mono ?_
  rintro e w' ⟨rfl, k3, rfl⟩
  go_wp2_with fail
  refine ⟨⟨r10, r11, r12, r13, r14, r15, r16, r17, CV.out _ ((Keeps.refl [] w).drewN _)⟩, ?_⟩
  iterate 9 (first | refine Plan.tA ?_ | refine Plan.tY ?_ | refine Plan.pN ?_ | refine Plan.pU ?_ | fail)
  refine Plan.step ?_
  go_wp2_with fail
  refine (cSnapshot_any _ B n c lv sv (HC.out.k ((Keeps.refl [] w).drewN _))).mono ?_
  rintro e w2 ⟨qa, qc, rfl, ho, hk⟩
  have K2 : Hid (Keeps [] w w2) := ((Keeps.refl [] w).drewN _).trans hk (fun _ _ h => h)
  have cv2 : (convert 38 9 (.slice qa c.snap.length qc)).run Try.prog w2 = .ok (.string (str c.snap)) w2 := conv_str (Reads.ofOwn ho)
  clear ho hk
  have s10 := K2.out.cellSome r10 (by simp)
  have s11 := K2.out.cellSome r11 (by simp)
  have s12 := K2.out.cellSome r12 (by simp)
  have s13 := K2.out.cellSome r13 (by simp)
  have s14 := K2.out.cellSome r14 (by simp)
  have s15 := K2.out.cellSome r15 (by simp)
  have s16 := K2.out.cellSome r16 (by simp)
  have s17 := K2.out.cellSome r17 (by simp)
  go_wp2_with fail
  refine ⟨⟨s10, s11, s12, s13, s14, s15, s16, s17, CV.out _ K2.out⟩, ?_⟩
  refine Plan.step ?_
  go_wp2_with fail
  refine ⟨⟨s10, s11, s12, s13, s14, s15, s16, s17, CV.out _ K2.out⟩, ?_⟩
  refine Plan.fin ?_
  clear cv2
  go_wp2_with fail
  refine (HCF.out _ 0 K2.out (by omega) (by omega)).mono ?_
  rintro e w3 ⟨fa3, fc3, rfl, fo, fk⟩
  have K3 : Hid (Keeps [] w w3) := (K2.out).trans fk (fun _ _ h => h)
  have L3 : Hid (ListAt entL w3 (fun _ => True) (.slice fa3 (fromD c 0).length fc3) (fromD c 0)) := OwnAt.list fo (fun _ _ _ => trivial) (fun _ _ => trivial)
  clear fo fk
  go_wp2_with fail
  refine (HRF.out _ 0 K3.out (by omega) (by omega)).mono ?_
  rintro e w4 ⟨fa4, fc4, rfl, fo, fk⟩
  have K4 : Hid (Keeps [] w w4) := (K3.out).trans fk (fun _ _ h => h)
  have L4 := hid fo
  have FK4 := hid fk
  clear fo fk
  go_wp2_with fail
  refine (sameEntries_any (fromD c 0) _ _ fa3 fa4 fc3 fc4 _ (L3.out.k FK4.out) L4.out (HLB.out 0)).mono ?_
  rintro e w5 ⟨rfl, hk⟩
  have K5 : Hid (Keeps [] w w5) := K4.out.trans hk (fun _ _ h => h)
  clear hk
  go_wp2_with fail
  refine (HRL.out _ K5.out).mono ?_
  rintro e w' ⟨rfl, k6, rfl⟩
  go_wp2_with fail
  refine (HCF.out _ (lastD c) (K5.out.drewN k6) (by omega) (by omega)).mono ?_
  rintro e w6 ⟨fa6, fc6, rfl, fo, fk⟩
  have K6 : Hid (Keeps [] w w6) := (K5.out.drewN k6).trans fk (fun _ _ h => h)
  have L6 : Hid (ListAt entL w6 (fun _ => True) (.slice fa6 (fromD c (lastD c)).length fc6) (fromD c (lastD c))) := OwnAt.list fo (fun _ _ _ => trivial) (fun _ _ => trivial)
  clear fo fk
  go_wp2_with fail
  refine (HRL.out _ K6.out).mono ?_
  rintro e w' ⟨rfl, k7, rfl⟩
  go_wp2_with fail
  refine (HRF.out _ (lastD c) (K6.out.drewN k7) (by omega) (by omega)).mono ?_
  rintro e w7 ⟨fa7, fc7, rfl, fo, fk⟩
  have K7 : Hid (Keeps [] w w7) := (K6.out.drewN k7).trans fk (fun _ _ h => h)
  have L7 := hid fo
  have FK7 := hid fk
  clear fo fk
  go_wp2_with fail
  refine (sameEntries_any (fromD c (lastD c)) _ _ fa6 fa7 fc6 fc7 _ ((L6.out.k ((Keeps.refl [] w6).drewN k7)).k FK7.out) L7.out (HLB.out _)).mono ?_
  rintro e w8 ⟨rfl, hk⟩
  have K8 : Hid (Keeps [] w w8) := K7.out.trans hk (fun _ _ h => h)
  clear hk
  have t15 := K8.out.cellSome r15 (by simp)
  go_wp2_with fail
  clear s10 s11 s12 s13 s14 s15 s16 s17 t15 L3 L4 L6 L7 FK4 FK7 K2 K3 K4 K5 K6 K7
  go_loopw [7] (fun i wr => ∃ x : Int, c.base - 1 ≤ x ∧ x ≤ lastD c + 2 ∧ i = .int .i64 x ∧ Hid (Keeps [] w wr)) (fun i _ => (lastD c + 2 - intOf i).toNat)
  case atStart => exact ⟨c.base - 1, by omega, by unfold lastD; omega, rfl, K8.out⟩
  case round =>
    obtain ⟨x, hx1, hx2, rfl, HW⟩ := hrel
    clear K8 r10 r11 r12 r13 r14 r16 r17
    obtain ⟨t, ok, hat⟩ : ∃ t ok, atD c x = (t, ok) := ⟨_, _, rfl⟩
    have HAT := hid hat
    clear hat
    by_cases hx : x ≤ lastD c + 1
    · have hxl : x ≤ 2199023255554 := by omega
      go_wp2_with fail
      refine (HRL.out _ HW.out).mono ?_
      rintro e w' ⟨rfl, q1, rfl⟩
      go_wp2_with fail
      refine (HCA.out _ x t ok (HW.out.drewN q1) (by omega) (by omega) HAT.out).mono ?_
      rintro e w' ⟨rfl, q2, rfl⟩
      go_wp2_with fail
      refine (HRA.out _ x t ok (HW.out.drewN _) (by omega) (by omega) HAT.out).mono ?_
      rintro e w' ⟨rfl, q3, rfl⟩
      rcases hen : entD c x with _ | e
      · have HEN := hid hen
        clear hen
        go_wp2_with fail
        refine (cEntry_no _ B n c lv sv (HC.out.k (HW.out.drewN _)) x HEN.out).mono ?_
        rintro e w2 ⟨rfl, hk⟩
        have K2 : Hid (Keeps [] w w2) := (HW.out.drewN _).trans hk (fun _ _ h => h)
        clear hk
        unfold entV
        have t15 := K2.out.cellSome r15 (by simp)
        have HT : Hid (∀ o, (w2.alloc o).cell? ⟨rn, 15, none⟩ = some (.int .i64 c.base)) := fun o => ((Keeps.refl [] w2).alloc o).cellSome t15 (by simp)
        by_cases hxb : x ≤ c.base
        · as_aux_lemma =>
          have hd1 : decide (c.base < x) = false := by simpa using hxb
          go_wp2_with fail
          refine Plan.wp_region_plan (fun w' => w'.cell? ⟨rn, 15, none⟩ = some (.int .i64 c.base)) 52 [(true, 0), (true, 1), (true, 2), (true, 3), (true, 4), (true, 5), (true, 6), (true, 7), (true, 8), (true, 9), (true, 10), (true, 11), (true, 12), (true, 13), (true, 14), (true, 15), (true, 16), (true, 17), (true, 18), (false, 19), (true, 20), (true, 21), (true, 22), (true, 23), (true, 24), (true, 25), (true, 26), (true, 27), (true, 28), (true, 29), (true, 30), (true, 31), (true, 32), (true, 34), (true, 35), (true, 36), (true, 37), (true, 38), (true, 39), (true, 40), (true, 41), (true, 42), (true, 43), (true, 44), (true, 45), (true, 46), (true, 47), (true, 48), (true, 49), (true, 50), (true, 51), (false, 33)] (by kernel_rfl) (by as_aux_lemma => kernel_rfl) (by kernel_rfl) (fun _ _ _ _ _ h => h) ?_ (fun hS => ?_)
          (· exact HT.out _)
          simp only [Plan.pick, List.append_eq, List.cons_append, List.nil_append, Plan.g1, Plan.g2, Option.getD_some, List.drop_succ_cons, List.drop_zero]
          iterate 19 (first | refine Plan.tA ?_ | refine Plan.tY ?_ | refine Plan.pN ?_ | refine Plan.pU ?_ | fail)
          refine Plan.step ?_
          go_wp2_with fail
          refine ⟨HT.out _, ?_⟩
          iterate 31 (first | refine Plan.tA ?_ | refine Plan.tY ?_ | refine Plan.pN ?_ | refine Plan.pU ?_ | fail)
          refine Plan.step ?_
          go_wp2_with fail
          refine ⟨HT.out _, ?_⟩
          refine Plan.fin ?_
          go_wp2_with fail
          go_roundw
          case rel => exact ⟨x + 1, by omega, by omega, rfl, (K2.out.alloc _).drewN _⟩
          case measure => simp [intOf]; omega
        · as_aux_lemma =>
          have hxl2 : lastD c < x := by
            have h1 := HEN.out
            unfold entD at h1
            split at h1
            · omega
            · have h2 := List.getElem?_eq_none_iff.1 h1
              have := HC.out.ok.base.1
              unfold lastD at *
              omega
          have hd1 : decide (c.base < x) = true := by simp; omega
          have hd2 : decide (x ≤ lastD c) = false := by simp; omega
          go_wp2_with fail
          refine Plan.wp_region_plan (fun w' => w'.cell? ⟨rn, 15, none⟩ = some (.int .i64 c.base)) 52 [(true, 0), (true, 1), (true, 2), (true, 3), (true, 4), (true, 5), (true, 6), (true, 7), (true, 8), (true, 9), (true, 10), (true, 11), (true, 12), (true, 13), (true, 14), (true, 15), (true, 16), (true, 17), (true, 18), (false, 19), (true, 20), (true, 21), (true, 22), (true, 23), (true, 24), (true, 25), (true, 26), (true, 27), (true, 28), (true, 29), (true, 30), (true, 31), (true, 32), (true, 34), (true, 35), (true, 36), (true, 37), (true, 38), (true, 39), (true, 40), (true, 41), (true, 42), (true, 43), (true, 44), (true, 45), (true, 46), (true, 47), (true, 48), (true, 49), (true, 50), (true, 51), (false, 33)] (by kernel_rfl) (by as_aux_lemma => kernel_rfl) (by kernel_rfl) (fun _ _ _ _ _ h => h) ?_ (fun hS => ?_)
          (· exact HT.out _)
          simp only [Plan.pick, List.append_eq, List.cons_append, List.nil_append, Plan.g1, Plan.g2, Option.getD_some, List.drop_succ_cons, List.drop_zero]
          iterate 19 (first | refine Plan.tA ?_ | refine Plan.tY ?_ | refine Plan.pN ?_ | refine Plan.pU ?_ | fail)
          refine Plan.step ?_
          go_wp2_with fail
          refine (HRL.out _ ((K2.out.alloc _).drewN _)).mono ?_
          rintro e w' ⟨rfl, q4, rfl⟩
          go_wp2_with fail
          refine ⟨HT.out _, ?_⟩
          iterate 31 (first | refine Plan.tA ?_ | refine Plan.tY ?_ | refine Plan.pN ?_ | refine Plan.pU ?_ | fail)
          refine Plan.step ?_
          go_wp2_with fail
          refine ⟨HT.out _, ?_⟩
          refine Plan.fin ?_
          go_wp2_with fail
          go_roundw
          case rel => exact ⟨x + 1, by omega, by omega, rfl, (K2.out.alloc _).drewN _⟩
          case measure => simp [intOf]; omega
      · as_aux_lemma =>
        obtain ⟨j, hj, he, hxl3⟩ := entD_some hen
        have HEN := hid hen
        have hjl : j < c.l.length := (List.getElem?_eq_some_iff.1 he).1
        have hat2 : t = e.term ∧ ok = true := by
          have h1 := HAT.out
          unfold atD at h1
          rw [if_neg (by omega), if_neg (by omega), show (x - c.base - 1).toNat = j by omega, he] at h1
          simp at h1
          exact ⟨h1.1.symm, h1.2⟩
        obtain ⟨rfl, rfl⟩ := hat2
        obtain ⟨g, off, q5, av, cv, hfl, hcl, hcm, e0, e1, e2, eb⟩ := HRLG.out.ent he
        simp at hfl
        obtain ⟨hfa, hfb⟩ := hfl
        subst hfa
        subst hfb
        have HPC : Hid (ListAt entL w P (.slice (some ⟨g, off + j * 3, none⟩) 1 (lc - j)) [e]) := by
          have := HRLG.out.piece j 1 (lc - j) (some ⟨g, off + j * 3, none⟩) (by omega) (by omega) (by omega) (fun _ => rfl)
          have h1 : (c.l.drop j).take 1 = [e] := by
            rw [List.drop_eq_getElem_cons hjl]
            rw [List.getElem?_eq_getElem hjl] at he
            simp at he
            simp [he]
          rwa [h1] at this
        have HDL : Hid (e.data.length ≤ 1000000) := HC.out.ok.data e (List.mem_of_getElem? he)
        have hc63 : (lc : Int) ≤ 9223372036854775807 := by unfold maxLen at hcm; omega
        have HJ := hid hj
        clear hen he e0 e1 e2 eb hcm hj
        go_wp2_with fail
        refine (cEntry_yes _ B n c lv sv (HC.out.k (HW.out.drewN _)) x e HEN.out).mono ?_
        rintro z w2 ⟨ea, ec, rfl, hb, hk⟩
        have K2 : Hid (Keeps [] w w2) := (HW.out.drewN _).trans hk (fun _ _ h => h)
        have HB := hid hb
        clear hk hb
        unfold entV
        have t15 := K2.out.cellSome r15 (by simp)
        have t18 := K2.out.cellSome r18 (by simp)
        have hj := HJ.out
        have hd1 : decide (c.base < x) = true := by simp; omega
        have hd2 : decide (x ≤ lastD c) = true := by simp; omega
        have w1 : IntKind.i64.wrap (x - c.base) = (j : Int) + 1 := by rw [IntWalk.i64_in _ (by omega)]; omega
        have w2' : IntKind.i64.wrap (j : Int) = (j : Int) := IntWalk.i64_in _ (by omega)
        have w3' : IntKind.i64.wrap ((j : Int) + 1 - 1) = (j : Int) := by rw [IntWalk.i64_in _ (by omega)]; omega
        have j0 : (0 : Int) ≤ (j : Int) := Int.natCast_nonneg _
        have j1 : (j : Int) + 1 ≤ (c.l.length : Int) := by omega
        have j2 : (j : Int) + 1 ≤ (lc : Int) := by omega
        have j3 : (j : Int) ≤ (lc : Int) := by omega
        have j4 : ((j : Int) + 1).toNat = j + 1 := by omega
        have j5 : ¬ lc = j := by omega
        have j6 : (j : Int) ≤ (j : Int) + 1 := by omega
        have j7 : j + 1 - j = 1 := by omega
        clear hj
        have HX : Hid (∃ w4, w4 = w2.alloc (.cells #[.int .i64 e.term, .bool e.cmd, .slice ea e.data.length ec] 59) ∧ w4.cell? ⟨w2.heap.size, 0, none⟩ = some (.int .i64 e.term) ∧ w4.cell? ⟨w2.heap.size, 1, none⟩ = some (.bool e.cmd) ∧ w4.cell? ⟨w2.heap.size, 2, none⟩ = some (.slice ea e.data.length ec) ∧ Keeps [] w2 w4) := ⟨_, rfl, by simp, by simp, by simp, (Keeps.refl [] w2).alloc _⟩
        go_wp2_with fail
        obtain ⟨w4, hw4, xb0, xb1, xb2, xk⟩ := HX.out
        rw [← hw4]
        have XK := hid xk
        have u15 := xk.cellSome t15 (by simp)
        have u18 := xk.cellSome t18 (by simp)
        have KW4 : Hid (Keeps [] w w4) := K2.out.trans xk (fun _ _ h => h)
        clear hw4 xk HX
        refine Plan.wp_region_plan (fun wx => wx.cell? ⟨rn, 15, none⟩ = some (.int .i64 c.base) ∧ wx.cell? ⟨rn, 18, none⟩ = some (.slice (some ⟨g, off, none⟩) c.l.length lc) ∧ wx.cell? ⟨w2.heap.size, 0, none⟩ = some (.int .i64 e.term) ∧ wx.cell? ⟨w2.heap.size, 1, none⟩ = some (.bool e.cmd) ∧ wx.cell? ⟨w2.heap.size, 2, none⟩ = some (.slice ea e.data.length ec)) 52 [(true, 0), (true, 1), (true, 2), (true, 3), (true, 4), (true, 5), (true, 6), (true, 7), (true, 8), (true, 9), (true, 10), (true, 11), (true, 12), (true, 13), (true, 14), (true, 15), (true, 16), (true, 17), (true, 18), (false, 19), (true, 20), (true, 21), (true, 22), (true, 23), (true, 24), (true, 25), (true, 26), (true, 27), (true, 28), (true, 29), (true, 30), (true, 31), (true, 32), (true, 34), (true, 35), (true, 36), (true, 37), (true, 38), (true, 39), (true, 40), (true, 41), (true, 42), (true, 43), (true, 44), (true, 45), (true, 46), (true, 47), (true, 48), (true, 49), (true, 50), (true, 51), (false, 33)] (by kernel_rfl) (by as_aux_lemma => kernel_rfl) (by kernel_rfl) (fun _ _ _ _ _ h => h) ?_ (fun hS => ?_)
        (· exact ⟨u15, u18, xb0, xb1, xb2⟩)
        simp only [Plan.pick, List.append_eq, List.cons_append, List.nil_append, Plan.g1, Plan.g2, Option.getD_some, List.drop_succ_cons, List.drop_zero]
        iterate 19 (first | refine Plan.tA ?_ | refine Plan.tY ?_ | refine Plan.pN ?_ | refine Plan.pU ?_ | fail)
        refine Plan.step ?_
        go_wp2_with fail
        refine (HRL.out _ (KW4.out.drewN 1)).mono ?_
        rintro e' w' ⟨rfl, q6, rfl⟩
        go_wp2_with fail
        refine ⟨⟨u15, u18, xb0, xb1, xb2⟩, ?_⟩
        iterate 31 (first | refine Plan.tA ?_ | refine Plan.tY ?_ | refine Plan.pN ?_ | refine Plan.pU ?_ | fail)
        refine Plan.step ?_
        go_wp2_with fail
        have KY : ∀ o q, Keeps [] w4 ((w4.drewN q).alloc o) := fun o q => ((Keeps.refl [] w4).drewN q).alloc o
        refine ⟨⟨(KY _ _).cellSome u15 (by simp), (KY _ _).cellSome u18 (by simp), (KY _ _).cellSome xb0 (by simp), (KY _ _).cellSome xb1 (by simp), (KY _ _).cellSome xb2 (by simp)⟩, ?_⟩
        refine Plan.fin ?_
        clear w1 w2' w3' j4 j7 KY
        go_wp2_with fail
        refine (sameEntries_any [e] (fun _ => True) P (some ⟨w4.heap.size, 0, none⟩) (some ⟨g, off + j * 3, none⟩) 1 (lc - j) _ ⟨_, ElemsAt.one1 (cs := [.int .i64 e.term, .bool e.cmd, .slice ea e.data.length ec]) ⟨_, rfl, ((HB.out.k XK.out).k (((Keeps.refl [] w4).drewN _).alloc _)).mono (fun _ _ _ => trivial)⟩, Reads.one1 (heap_alloc_new _ _) rfl, fun _ _ _ => trivial⟩ ((HPC.out.k KW4.out).k (((Keeps.refl [] w4).drewN _).alloc _)) (by simp)).mono ?_
        rintro e' w5 ⟨rfl, hk5⟩
        have K5 : Hid (Keeps [] w w5) := ((KW4.out.drewN _).alloc _).trans hk5 (fun _ _ h => h)
        clear hk5
        go_wp2_with fail
        go_roundw
        case rel => exact ⟨x + 1, by omega, by omega, rfl, K5.out⟩
        case measure => simp [intOf]; omega
    · go_wp2_with fail
      refine (HRL.out _ HW.out).mono ?_
      rintro e w' ⟨rfl, q1, rfl⟩
      go_wp2_with fail
      go_ret
      exact ⟨rfl, HW.out.drewN _⟩

end Go.Proofs.Ytpppoajnbhipeaa

/- conf, awake. -/
namespace Go.Proofs.Ytpppoajnbhipeaa
open Go Go.RowKit

def confOf (n : Int) : ConfD := { nodes := 3 + placeOf n 3, clients := 2, heart := 2, lo := 8, range := 40, sessions := 3, snap := 9, room := 200, retry := 9 }

set_option maxHeartbeats 800000 in
theorem lConf_any (n : Int) (w : World) (wn : (Lit.int .i64 n).wf = true) : Calls Try.prog 51 #[.int .i64 n, .int .i64 2, .int .i64 20, .int .i64 2] w fun e w' => e = .returned (confV (confOf n)) ∧ Keeps [] w w' := by
  obtain ⟨p, hp⟩ : ∃ p, placeOf n 3 = p := ⟨_, rfl⟩
  have hb := placeOf_bd n 3 (by omega)
  rw [hp] at hb
  obtain ⟨b1, b2⟩ := hb
  have HP := hid hp
  clear hp
  go_enter Try.func51, Try.ntmps51
  go_wp2_with fail
  refine (place_is p n 3 _ (by omega) (by omega) wn HP.out).mono ?_
  rintro e w' ⟨rfl, hw'⟩
  subst hw'
  go_wp2_with fail
  refine (place_is 2 2 4 _ (by omega) (by omega) (by decide) (by decide)).mono ?_
  rintro e w' ⟨rfl, hw'⟩
  subst hw'
  go_wp2_with fail
  refine (place_is 2 2 4 _ (by omega) (by omega) (by decide) (by decide)).mono ?_
  rintro e w' ⟨rfl, hw'⟩
  subst hw'
  go_wp2_with fail
  refine (place_is 8 20 12 _ (by omega) (by omega) (by decide) (by decide)).mono ?_
  rintro e w' ⟨rfl, hw'⟩
  subst hw'
  go_wp2_with fail
  refine bodyPost_ret (v := .agg #[.int .i64 (3 + p), .int .i64 2, .int .i64 2, .int .i64 8, .int .i64 40, .int .i64 3, .int .i64 9, .int .i64 200, .int .i64 9]) (by simp [results, Try.results51, go_sem]) rfl ⟨?_, (Keeps.refl [] w).alloc _⟩
  simp only [confV, confOf, HP.out]

set_option maxHeartbeats 800000 in
theorem cConf_any (n : Int) (w : World) (wn : (Lit.int .i64 n).wf = true) : Calls Try.prog 19 #[.int .i64 n] w fun e w' => e = .returned (confV (confOf n)) ∧ Keeps [] w w' := by
  obtain ⟨p, hp⟩ : ∃ p, 3 + placeOf n 3 = p := ⟨_, rfl⟩
  have HP := hid hp
  clear hp
  go_enter Try.func19, Try.ntmps19
  go_wp2_with fail
  refine (lConf_any n _ wn).mono ?_
  rintro e w1 ⟨rfl, k1⟩
  unfold confV confOf
  simp only [HP.out]
  obtain ⟨⟨c0, c1, c2, c3, c4, c5, c6, c7, c8⟩, f1⟩ := blk9 ((k1.block w.heap.size (by simp) (by simp)).trans (heap_alloc_new w _))
  have K1 := hid (((Keeps.refl [] w).alloc _).trans k1 (fun _ _ h => h))
  have HZ : Hid (w.heap.size < w1.heap.size) := World.block_lt_of_cell? _ _ c0
  have B0 : w1.heap[w.heap.size]? = some (.cells #[.int .i64 0, .int .i64 0, .int .i64 0, .int .i64 0, .int .i64 0, .int .i64 0, .int .i64 0, .int .i64 0, .int .i64 0] 23 (0, 0)) := (k1.block w.heap.size (by simp) (by simp)).trans (heap_alloc_new w _)
  have h9 := (heap_setCell_same _ _ 8 _ _ (.int .i64 9) (heap_setCell_same _ _ 7 _ _ (.int .i64 200) (heap_setCell_same _ _ 6 _ _ (.int .i64 9) (heap_setCell_same _ _ 5 _ _ (.int .i64 3) (heap_setCell_same _ _ 4 _ _ (.int .i64 40) (heap_setCell_same _ _ 3 _ _ (.int .i64 8) (heap_setCell_same _ _ 2 _ _ (.int .i64 2) (heap_setCell_same _ _ 1 _ _ (.int .i64 2) (heap_setCell_same _ _ 0 _ _ (.int .i64 p) B0)))))))))
  simp only [List.setIfInBounds_toArray, List.set_cons_zero, List.set_cons_succ] at h9
  have HB9 := hid h9
  clear B0 h9
  have hz := HZ.out
  have hne : ¬ w.heap.size = w1.heap.size := by omega
  have hne2 : ¬ w1.heap.size = w.heap.size := by omega
  clear k1
  go_wp2_with fail
  refine bodyPost_ret (v := .agg #[.int .i64 p, .int .i64 2, .int .i64 2, .int .i64 8, .int .i64 40, .int .i64 3, .int .i64 9, .int .i64 200, .int .i64 9]) (results_cell_row rfl _ _ w.heap.size 23 _ (0, 0) _ rfl ((Below.heap_alloc _ _ _ (by simp; omega)).trans HB9.out) Try.underlying23 rfl (by kernel_rfl)) rfl ⟨by simp only [confV, confOf, HP.out], ?_⟩
  have K2 := K1.out
  exact Keeps.K

def cf0 : ConfD := { nodes := 3, clients := 2, heart := 2, lo := 5, range := 40, sessions := 3, snap := 9, room := 200, retry := 9 }

def core0 : CoreD := newD cf0 1 0 0 0 0 []
/-- The core of the example behind k ticks. -/
def coreK (k : Nat) : CoreD := { drawD core0 2 with patience := k }
theorem coreK_succ (k : Nat) : ({ coreK k with patience := (coreK k).patience + 1 } : CoreD) = coreK (k + 1) := by
  unfold coreK
  simp

set_option maxRecDepth 100000 in
set_option maxHeartbeats 1600000 in
theorem cAwake_any (w : World) : Calls Try.prog 17 #[] w fun e w' => e = .returned (.bool true) ∧ Keeps [] w w' := by
  have hm : mayNewD cf0 1 0 0 0 0 [] = true := by decide
  have HM := hid hm
  have HP0 : Hid (placeOf 0 3 = 0) := by show _ = _; decide
  clear hm
  go_enter Try.func17, Try.ntmps17
  go_wp2_with fail
  refine (cConf_any 0 _ (by decide)).mono ?_
  rintro e w1 ⟨rfl, k1⟩
  unfold confV confOf
  simp only [HP0.out]
  have K1 := k1
  clear k1
  go_wp2_with fail
  refine (cNew_any cf0 1 0 0 0 0 [] none 0 (fun _ => True) _ (ListAt.nil _ _ _ _) (by simp)).mono ?_
  rintro e w2 h2
  obtain ⟨n, lv, sv, rfl, hc, hk⟩ : NewYes cf0 1 0 0 0 0 [] _ e w2 := by
    rcases h2 with ⟨_, h⟩ | ⟨h, _⟩
    · exact h
    · rw [HM.out] at h; cases h
  clear h2
  have K2 : Hid (Keeps [] w w2) := Keeps.trans (by exact Keeps.K) hk (fun _ _ h => h)
  have C2 := hid (hc.lower (B' := w.heap.size) (Keeps.size (F := []) (by exact Keeps.K)))
  clear hc hk
  go_wp2_with fail
  refine (cDraw_any w2 w.heap.size n core0 lv sv 2 C2.out).mono ?_
  rintro e w3 ⟨rfl, hc, hk⟩
  have C3 : Hid (CoreAt w3 w.heap.size n (coreK 0) lv sv) := hc
  have HB : Hid (w.heap.size ≤ n) := C2.out.base
  have K3 : Hid (Keeps [] w w3) := K2.out.trans hk (fun b hb hb' => by simp at hb'; subst hb'; have := HB.out; omega)
  clear hc hk K2 C2
  go_wp2_with fail
  go_loopw [4] (fun i wr => ∃ k : Nat, k ≤ 6 ∧ i = .int .i64 k ∧ Hid (CoreAt wr w.heap.size n (coreK k) lv sv ∧ Keeps [] w wr)) (fun i _ => 6 - (intOf i).toNat)
  case atStart => exact ⟨0, by omega, rfl, C3.out, K3.out⟩
  case round =>
    obtain ⟨k, hk, rfl, HW⟩ := hrel
    by_cases hlt : k < 6
    · have i1 : (k : Int) < 6 := by omega
      go_wp2_with fail
      refine (tick_wait _ w.heap.size n (coreK k) lv sv HW.out.1 (by show (0 : Int) ≠ 2; decide) ⟨by show (0 : Int) ≤ (k : Int); omega, by show (k : Int) ≤ 1000000000; omega⟩ (by show (k : Int) + 1 < 5 + max 0 (min 2 40); omega)).mono ?_
      rintro e w4 ⟨rfl, hc, hk4⟩
      rw [coreK_succ] at hc
      have W4 : Hid (CoreAt w4 w.heap.size n (coreK (k + 1)) lv sv ∧ Keeps [] w w4) := ⟨hc, HW.out.2.trans hk4 (fun b hb hb' => by simp at hb'; subst hb'; have := HB.out; omega)⟩
      clear hc hk4
      go_wp2_with fail
      go_roundw
      case rel => exact ⟨k + 1, by omega, by go_num, W4.out⟩
      case measure => simp [intOf]; omega
    · have hk6 : k = 6 := by omega
      subst hk6
      have HO : Hid (othersD (runD (coreK 6)) (voteMsg (runD (coreK 6))) = [voteMsg (runD (coreK 6)) 2, voteMsg (runD (coreK 6)) 3]) := by show _ = _; rfl
      go_wp2_with fail
      refine (tick_run _ w.heap.size n (coreK 6) lv sv HW.out.1 (by show (0 : Int) ≠ 2; decide) ⟨by decide, by decide⟩ (by decide) (by decide)).mono ?_
      rintro e w4 ⟨a, q, rfl, hc, hl, hk4⟩
      rw [HO.out] at hl ⊢
      obtain ⟨g, off, q', ha, _, _, _, _⟩ := hl.addr (by simp)
      simp at ha
      obtain ⟨ha, hq⟩ := ha
      subst ha
      subst hq
      obtain ⟨cs1, ⟨ev1, dv1, rfl, _⟩, hc1⟩ := hl.get (i := 0) rfl
      obtain ⟨cs2, ⟨ev2, dv2, rfl, _⟩, hc2⟩ := hl.get (i := 1) rfl
      have m0 : w4.cell? ⟨g, off, none⟩ = some (.int .i64 1) := hc1 0 _ rfl
      have m2 : w4.cell? ⟨g, off + 2, none⟩ = some (.int .i64 2) := hc1 2 _ rfl
      have m3 : w4.cell? ⟨g, off + 10 + 2, none⟩ = some (.int .i64 3) := hc2 2 _ rfl
      have KF : Hid (Keeps [] w w4) := HW.out.2.trans hk4 (fun b hb hb' => by simp at hb'; subst hb'; have := HB.out; omega)
      have HC := hid hc
      clear hc hl hc1 hc2 hk4
      go_wp2_with fail
      refine (cTerm_any _ w.heap.size n (runD (coreK 6)) lv sv HC.out).mono ?_
      rintro e w' ⟨rfl, hw'⟩
      subst hw'
      have t1 : (runD (coreK 6)).term = 1 := rfl
      have t2 : (runD (coreK 6)).role = 1 := rfl
      rw [t1]
      go_wp2_with fail
      refine (cRole_any _ w.heap.size n (runD (coreK 6)) lv sv HC.out).mono ?_
      rintro e w' ⟨rfl, hw'⟩
      subst hw'
      rw [t2]
      go_wp2_with fail
      go_ret
      exact ⟨rfl, KF.out⟩

end Go.Proofs.Ytpppoajnbhipeaa

/- A core that comes to lead, in plain words. -/
namespace Go.Proofs.Ytpppoajnbhipeaa
open Go Go.RowKit

def cfL (p : Int) : ConfD := { nodes := p, clients := 2, heart := 2, lo := 8, range := 40, sessions := 3, snap := 9, room := 200, retry := 9 }
theorem cfL_is (p n : Int) (w : World) (wn : (Lit.int .i64 n).wf = true) (h : 3 + placeOf n 3 = p) : Calls Try.prog 19 #[.int .i64 n] w fun e w' => e = .returned (.agg #[.int .i64 p, .int .i64 2, .int .i64 2, .int .i64 8, .int .i64 40, .int .i64 3, .int .i64 9, .int .i64 200, .int .i64 9]) ∧ Keeps [] w w' := by
  have := cConf_any n w wn
  unfold confV confOf at this
  rw [h] at this
  exact this

/-- Behind k ticks. -/
def leadS (p t0 : Int) (l : List Ent) (k : Nat) : CoreD := { newD (cfL p) 1 t0 0 0 0 l with patience := k }
/-- It asks for votes. -/
def leadX (p t0 : Int) (l : List Ent) : CoreD := runD (leadS p t0 l 7)
def leadT (p t0 : Int) (l : List Ent) (k : Nat) : CoreD := if k ≤ 7 then leadS p t0 l k else leadX p t0 l
def voteY (i t : Int) : MsgD := { kind := 2, frm := i, to := 1, term := t, a := 0, b := 0, c := 0, ok := true, entries := [], data := [] }
/-- Ahead of the vote of node i. -/
def leadV (p t0 : Int) (l : List Ent) : Nat → CoreD
  | 0 => leadX p t0 l
  | i + 1 => if i < 2 then leadX p t0 l else (hearD (leadV p t0 l i) (voteY i (leadV p t0 l i).term)).1

/-- It leads. -/
structure Led (p t0 : Int) (l : List Ent) (c : CoreD) : Prop where
  conf : c.conf = cfL p
  id : c.id = 1
  term : c.term = t0 + 1
  vote : c.vote = 1
  role : c.role = 2
  leader : c.leader = 1
  commit : c.commit = 0
  base : c.base = 0
  baseTerm : c.baseTerm = 0
  log : c.l = l ++ [{ term := t0 + 1, cmd := false, data := [] }]
  snap : c.snap = []
  draw : c.draw = 0
  patience : c.patience = 0
  next : c.next = List.replicate 8 ((l.length : Int) + 1)
  matc : c.matc = List.replicate 8 0
  ban : c.ban = fun _ => False

theorem hear_vote {p t0 : Int} {c : CoreD} (hc : c.conf = cfL p) (hi : c.id = 1) (ht : c.term = t0 + 1) (h0 : 0 ≤ t0 ∧ t0 ≤ 1000) {i : Nat} (h2 : 2 ≤ i) (hp : (i : Int) ≤ p) : hearD c (voteY i c.term) = votedD c (voteY i c.term) := by
  have hw : wrongD c (voteY i c.term) = false := by
    have d1 : decide (1 ≤ (i : Int)) = true := by simp; omega
    have d2 : decide ((i : Int) ≤ p) = true := by simpa using hp
    have d3 : decide (1 ≤ t0 + 1) = true := by simp; omega
    have d4 : decide (t0 + 1 ≤ 1099511627776) = true := by simp; omega
    have d5 : ((i : Int) == 1) = false := by simp; omega
    simp only [wrongD, wrongHead, voteY, hc, hi, ht, cfL, inD, d1, d2, d3, d4, d5, List.any_nil, List.length_nil]
    decide
  unfold hearD
  rw [hw]
  have e : stepD c (voteY i c.term) = c := by unfold stepD; rw [if_neg (by show ¬ c.term < c.term; omega)]
  rw [e]
  rfl
theorem led_same {p t0 : Int} {l : List Ent} {c : CoreD} (h : Led p t0 l c) (h0 : 0 ≤ t0 ∧ t0 ≤ 1000) {i : Nat} (h2 : 2 ≤ i) (hp : (i : Int) ≤ p) : (hearD c (voteY i c.term)).1 = c := by
  rw [hear_vote h.conf h.id h.term h0 h2 hp]
  unfold votedD
  rw [if_pos (.inr (.inl (by rw [h.role]; decide)))]
def leadW (p t0 : Int) (l : List Ent) (vs : List Bool) : CoreD := { leadX p t0 l with votes := vs }
theorem leadX_heard {p t0 : Int} {l : List Ent} (vs : List Bool) (h0 : 0 ≤ t0 ∧ t0 ≤ 1000) {i : Nat} (h2 : 2 ≤ i) (hp : (i : Int) ≤ p) :
    hearD (leadW p t0 l vs) (voteY i (leadW p t0 l vs).term) = if ((vs.set i true).count true : Int) ≤ p / 2 then (leadW p t0 l (vs.set i true), [])
      else (leadD (leadW p t0 l (vs.set i true)), othersD (leadD (leadW p t0 l (vs.set i true))) (sendD (leadD (leadW p t0 l (vs.set i true))))) := by
  rw [hear_vote (p := p) (t0 := t0) rfl rfl rfl h0 h2 hp]
  unfold votedD
  rw [if_neg (fun h => h.elim (fun h => h rfl) (fun h => h.elim (fun h => h rfl) (fun h => by cases h)))]
  rfl
theorem leadX_leads {p t0 : Int} {l : List Ent} (vs : List Bool) (hl : l.length < 5096) : Led p t0 l (leadD (leadW p t0 l vs)) := by
  unfold leadD
  rw [if_pos (by exact hl)]
  exact { conf := rfl, id := rfl, term := rfl, vote := rfl, role := rfl, leader := rfl, commit := rfl, base := rfl, baseTerm := rfl, log := rfl, snap := rfl, draw := by show min ((1 - 1) * (2 + 6)) 40 = (0 : Int); decide, patience := rfl, next := by show List.replicate 8 ((0 : Int) + l.length + 1) = _; rw [Int.zero_add], matc := rfl, ban := rfl }

theorem leadV_succ {p t0 : Int} {l : List Ent} {i : Nat} (h : 2 ≤ i) : leadV p t0 l (i + 1) = (hearD (leadV p t0 l i) (voteY i (leadV p t0 l i).term)).1 := by
  conv => lhs; unfold leadV
  rw [if_neg (by omega)]
theorem leadV_two {p t0 : Int} {l : List Ent} : leadV p t0 l 2 = leadX p t0 l := by
  unfold leadV
  rw [if_pos (by decide)]
theorem voted_last (c : CoreD) (m : MsgD) : lastD (votedD c m).1 ≤ lastD c + 1 := by
  unfold votedD
  split
  · show lastD c ≤ _
    omega
  · split
    · show lastD c ≤ _
      omega
    · show lastD (leadD (votedC c m)) ≤ _
      unfold leadD
      split
      · show c.base + ((c.l ++ [_]).length : Int) ≤ c.base + c.l.length + 1
        simp
        omega
      · show lastD c ≤ _
        omega
theorem hear_last (c : CoreD) (i t : Int) : lastD (hearD c (voteY i t)).1 ≤ lastD c + 1 := by
  unfold hearD
  split
  · show lastD c ≤ _
    omega
  · have e : heardD (stepD c (voteY i t)) (voteY i t) = votedD (stepD c (voteY i t)) (voteY i t) := rfl
    rw [e]
    have h1 := voted_last (stepD c (voteY i t)) (voteY i t)
    have h2 : lastD (stepD c (voteY i t)) = lastD c := by unfold stepD; split <;> rfl
    omega
theorem leadV_last {p t0 : Int} {l : List Ent} : ∀ i : Nat, lastD (leadV p t0 l i) ≤ l.length + i
  | 0 => by show (0 : Int) + l.length ≤ _; omega
  | i + 1 => by
    have h1 := leadV_last (p := p) (t0 := t0) (l := l) i
    unfold leadV
    split
    · show (0 : Int) + l.length ≤ _; omega
    · have h2 := hear_last (leadV p t0 l i) i (leadV p t0 l i).term
      omega
theorem leadV_led {p t0 : Int} {l : List Ent} (hp : 3 ≤ p ∧ p ≤ 5) (h0 : 0 ≤ t0 ∧ t0 ≤ 1000) (hl : l.length < 5096) : Led p t0 l (leadV p t0 l (p.toNat + 1)) := by
  have hx : leadX p t0 l = leadW p t0 l [false, true, false, false, false, false, false, false] := rfl
  have hp3 : p = 3 ∨ p = 4 ∨ p = 5 := by omega
  rcases hp3 with rfl | rfl | rfl
  · have e3 : Led 3 t0 l (leadV 3 t0 l 3) := by
      rw [leadV_succ (by omega), leadV_two, hx, leadX_heard _ h0 (by omega) (by decide), if_neg (by decide)]
      exact leadX_leads _ hl
    show Led 3 t0 l (leadV 3 t0 l 4)
    rw [leadV_succ (by omega), led_same e3 h0 (by omega) (by decide)]
    exact e3
  · have e3 : leadV 4 t0 l 3 = leadW 4 t0 l [false, true, true, false, false, false, false, false] := by
      rw [leadV_succ (by omega), leadV_two, hx, leadX_heard _ h0 (by omega) (by decide), if_pos (by decide)]
      rfl
    have e4 : Led 4 t0 l (leadV 4 t0 l 4) := by
      rw [leadV_succ (by omega), e3, leadX_heard _ h0 (by omega) (by decide), if_neg (by decide)]
      exact leadX_leads _ hl
    show Led 4 t0 l (leadV 4 t0 l 5)
    rw [leadV_succ (by omega), led_same e4 h0 (by omega) (by decide)]
    exact e4
  · have e3 : leadV 5 t0 l 3 = leadW 5 t0 l [false, true, true, false, false, false, false, false] := by
      rw [leadV_succ (by omega), leadV_two, hx, leadX_heard _ h0 (by omega) (by decide), if_pos (by decide)]
      rfl
    have e4 : Led 5 t0 l (leadV 5 t0 l 4) := by
      rw [leadV_succ (by omega), e3, leadX_heard _ h0 (by omega) (by decide), if_neg (by decide)]
      exact leadX_leads _ hl
    have e5 : Led 5 t0 l (leadV 5 t0 l 5) := by
      rw [leadV_succ (by omega), led_same e4 h0 (by omega) (by decide)]
      exact e4
    show Led 5 t0 l (leadV 5 t0 l 6)
    rw [leadV_succ (by omega), led_same e5 h0 (by omega) (by decide)]
    exact e5

end Go.Proofs.Ytpppoajnbhipeaa
