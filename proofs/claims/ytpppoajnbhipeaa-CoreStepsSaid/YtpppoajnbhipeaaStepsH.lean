/- CoreSteps: plain, and walked. -/
import Derived.Test.YtpppoajnbhipeaaOldH
import Derived.Test.YtpppoajnbhipeaaApA
namespace Go.Proofs.Ytpppoajnbhipeaa
open Go Go.RowKit

def stepM (k f t : Int) : MsgD := { kind := k, frm := f, to := 1, term := t, a := 9999, b := t, c := 0, ok := true, entries := [], data := [] }
theorem inD_yes {v a b : Int} (h : a ≤ v ∧ v ≤ b) : inD v a b = true := by
  unfold inD
  rw [decide_eq_true h.1, decide_eq_true h.2]
  rfl
/-- What it is when it heard of a later term. -/
theorem step_c1 {p t0 : Int} {l : List Ent} {c : CoreD} (h : Led p t0 l c) {k f t : Int} (ht : t0 + 1 < t) : stepD c (stepM k f t) = { risesD c t 0 with role := 0, leader := 0 } := by
  unfold stepD
  rw [if_pos (by rw [h.term]; exact ht)]
  rfl
theorem step_right {l : List Ent} {c : CoreD} (h : Led 5 5 l c) {k f t : Int} (hk : 1 ≤ k ∧ k ≤ 5) (hf : 2 ≤ f ∧ f ≤ 5) (ht : 7 ≤ t ∧ t ≤ 1006) : wrongD c (stepM k f t) = false := by
  have e1 : inD k 1 5 = true := inD_yes hk
  have e2 : inD f 1 5 = true := inD_yes (by omega)
  have e3 : (f == 1) = false := by simp; omega
  have e4 : inD t 1 1099511627776 = true := inD_yes (by omega)
  have e5 : inD t 0 1099511627776 = true := inD_yes (by omega)
  simp only [wrongD, wrongHead, stepM, h.conf, h.id, cfL, e1, e2, e3, e4, e5, List.any_nil, List.length_nil]
  rfl
theorem step_far {l : List Ent} {c : CoreD} (h : Led 5 5 l c) (hl : l.length ≤ 12) {k f t : Int} (ht : 7 ≤ t) : atD (followD (stepD c (stepM k f t)) (stepM k f t)) 9999 = (0, false) := by
  rw [step_c1 h (by omega)]
  unfold atD followD lastD
  show (if (9999 : Int) = c.base then _ else if (9999 : Int) < c.base ∨ c.base + (c.l.length : Int) < 9999 then ((0 : Int), false) else _) = _
  rw [h.base, h.log]
  rw [if_neg (by omega), if_pos (by right; simp; omega)]
theorem heardD_1 {c : CoreD} {m : MsgD} (hk : m.kind = 1) : heardD c m = askedD c m := by unfold heardD; rw [if_pos hk]
theorem heardD_2 {c : CoreD} {m : MsgD} (hk : m.kind = 2) : heardD c m = votedD c m := by unfold heardD; rw [if_neg (by omega), if_pos hk]
theorem heardD_4 {c : CoreD} {m : MsgD} (hk : m.kind = 4) : heardD c m = appendedD c m := by unfold heardD; rw [if_neg (by omega), if_neg (by omega), if_pos hk]
theorem heardD_3 {c : CoreD} {m : MsgD} (hk : m.kind = 3) (ht : ¬ m.term < c.term) (hr : c.role ≠ 2) : heardD c m = appendD (followD c m) m := by
  have hs : snapNo m = false := by unfold snapNo; rw [hk]; rfl
  unfold heardD
  rw [if_neg (by omega), if_neg (by omega), if_neg (by omega), if_neg ht, if_neg (fun h => h.elim hr (fun h => by rw [hs] at h; cases h)), if_neg (by omega)]
theorem heardD_5 {c : CoreD} {m : MsgD} (hk : m.kind = 5) (ht : ¬ m.term < c.term) (hr : c.role ≠ 2) (hs : snapNo m = false) : heardD c m = takesD (followD c m) m := by
  unfold heardD
  rw [if_neg (by omega), if_neg (by omega), if_neg (by omega), if_neg ht, if_neg (fun h => h.elim hr (fun h => by rw [hs] at h; cases h)), if_pos hk]
def StepIs (r : CoreD) (t v ld : Int) : Prop := r.term = t ∧ r.role = 0 ∧ r.vote = v ∧ r.leader = ld
theorem step_heard {l : List Ent} {c : CoreD} (h : Led 5 5 l c) (hl : l.length ≤ 12) {k f t v ld : Int} (hf : 2 ≤ f ∧ f ≤ 5) (ht : 7 ≤ t ∧ t ≤ 1006)
    (hc : (k = 1 ∧ v = f ∧ ld = 0) ∨ (k = 2 ∧ v = 0 ∧ ld = 0) ∨ (k = 3 ∧ v = 0 ∧ ld = f) ∨ (k = 4 ∧ v = 0 ∧ ld = 0) ∨ (k = 5 ∧ v = 0 ∧ ld = f)) : StepIs (hearD c (stepM k f t)).1 t v ld := by
  have hr : wrongD c (stepM k f t) = false := step_right h (by omega) hf ht
  have hs := step_c1 h (k := k) (f := f) (t := t) (by omega)
  have hfar := step_far h hl (k := k) (f := f) (t := t) ht.1
  have he : hearD c (stepM k f t) = heardD (stepD c (stepM k f t)) (stepM k f t) := by unfold hearD; rw [hr]; rfl
  have htt : ¬ (stepM k f t).term < (stepD c (stepM k f t)).term := by rw [hs]; show ¬ t < t; omega
  have hro : (stepD c (stepM k f t)).role ≠ 2 := by rw [hs]; show (0 : Int) ≠ 2; decide
  rw [he]
  rcases hc with ⟨hk, hv, hld⟩ | ⟨hk, hv, hld⟩ | ⟨hk, hv, hld⟩ | ⟨hk, hv, hld⟩ | ⟨hk, hv, hld⟩
  · subst hk
    rw [heardD_1 rfl]
    have hlt : lastTerm (stepD c (stepM 1 f t)) = 6 := by
      rw [hs]
      unfold lastTerm atD lastD
      show (if c.base + (c.l.length : Int) = c.base then ((c.baseTerm : Int), true) else if c.base + (c.l.length : Int) < c.base ∨ c.base + (c.l.length : Int) < c.base + (c.l.length : Int) then ((0 : Int), false) else (((c.l[(c.base + (c.l.length : Int) - c.base - 1).toNat]?).map (·.term)).getD 0, true)).1 = 6
      have hlen : c.l.length = l.length + 1 := by rw [h.log]; simp
      rw [if_neg (by omega), if_neg (by omega), show (c.base + (c.l.length : Int) - c.base - 1).toNat = l.length by omega, h.log]
      simp
    have ho : askedOk (stepD c (stepM 1 f t)) (stepM 1 f t) = true := by
      unfold askedOk
      rw [hlt, hs]
      have e1 : (t == t) = true := by simp
      have e2 : decide ((6 : Int) < t) = true := decide_eq_true (by omega)
      show ((t == t) && ((0 : Int) == 0 || (0 : Int) == f) && ((0 : Int) == 0) && (decide ((6 : Int) < t) || (t == 6) && _)) = true
      rw [e1, e2]
      rfl
    unfold askedD askedC
    rw [ho, hs, hv, hld]
    exact ⟨rfl, rfl, rfl, rfl⟩
  · subst hk
    rw [heardD_2 rfl]
    unfold votedD
    rw [hs, if_pos (.inr (.inl (by show (0 : Int) ≠ 1; decide))), hv, hld]
    exact ⟨rfl, rfl, rfl, rfl⟩
  · subst hk
    rw [heardD_3 rfl htt hro]
    have hf' : fitD (followD (stepD c (stepM 3 f t)) (stepM 3 f t)) (stepM 3 f t).a (stepM 3 f t).b false = false := by
      unfold fitD
      rw [show (stepM 3 f t).a = 9999 from rfl, hfar]
      rfl
    rw [appendD_no (by rw [hs]; show c.base ≤ 9999; rw [h.base]; omega) hf', hs, hv, hld]
    exact ⟨rfl, rfl, rfl, rfl⟩
  · subst hk
    rw [heardD_4 rfl]
    unfold appendedD
    rw [hs, if_pos (.inr (.inl (by show (0 : Int) ≠ 2; decide))), hv, hld]
    exact ⟨rfl, rfl, rfl, rfl⟩
  · subst hk
    have hsn : snapNo (stepM 5 f t) = false := by
      show (((5 : Int) == 5) && (!inD 9999 1 549755813888 || !inD t 1 t)) = false
      rw [inD_yes (v := t) (a := 1) (b := t) (by omega)]
      decide
    rw [heardD_5 rfl htt hro hsn]
    unfold takesD
    rw [if_neg (by rw [hs]; show ¬ (9999 : Int) ≤ c.commit; rw [h.commit]; omega), if_neg (by rw [show (stepM 5 f t).a = 9999 from rfl, hfar]; rintro ⟨h1, _⟩; cases h1), hs, hv, hld]
    exact ⟨rfl, rfl, rfl, rfl⟩


set_option maxRecDepth 100000 in
set_option maxHeartbeats 6400000 in
theorem steps_walk (ts : List Int) (kind by_ from_ k f t v ld : Int) (a0 : Option Addr) (c0 : Nat) (P : Nat → Prop) (w : World) (hl : ListAt intL w P (.slice a0 ts.length c0) ts) (hw : ∀ x ∈ ts, IntW x) (w1' : IntW kind) (w2' : IntW by_) (w3' : IntW from_)
    (hk : 1 + placeOf kind 5 = k) (ht : 7 + placeOf by_ 1000 = t) (hf : 2 + placeOf from_ 4 = f)
    (hc : (k = 1 ∧ v = f ∧ ld = 0) ∨ (k = 2 ∧ v = 0 ∧ ld = 0) ∨ (k = 3 ∧ v = 0 ∧ ld = f) ∨ (k = 4 ∧ v = 0 ∧ ld = 0) ∨ (k = 5 ∧ v = 0 ∧ ld = f)) :
    Calls Try.prog 6 #[.slice a0 ts.length c0, .int .i64 kind, .int .i64 by_, .int .i64 from_] w fun e w' => e = .returned (.bool true) ∧ Below w.heap.size w w' := by
  have HL := hid hl
  have HTS := hid hw
  have hll := oldL_len ts
  have HOD := hid (oldL_data ts)
  obtain ⟨p1, hp1⟩ : ∃ p, placeOf kind 5 = p := ⟨_, rfl⟩
  obtain ⟨p2, hp2⟩ : ∃ p, placeOf by_ 1000 = p := ⟨_, rfl⟩
  obtain ⟨p3, hp3⟩ : ∃ p, placeOf from_ 4 = p := ⟨_, rfl⟩
  have q1 := placeOf_bd kind 5 (by omega)
  have q2 := placeOf_bd by_ 1000 (by omega)
  have q3 := placeOf_bd from_ 4 (by omega)
  rw [hp1] at q1 hk
  rw [hp2] at q2 ht
  rw [hp3] at q3 hf
  have k15 : 1 ≤ k ∧ k ≤ 5 := by omega
  have f25 : 2 ≤ f ∧ f ≤ 5 := by omega
  have t71 : 7 ≤ t ∧ t ≤ 1006 := by omega
  have wr1 : IntKind.i64.wrap (1 + p1) = k := by rw [IntWalk.i64_in _ (by omega)]; exact hk
  have wr2 : IntKind.i64.wrap (7 + p2) = t := by rw [IntWalk.i64_in _ (by omega)]; exact ht
  have wr3 : IntKind.i64.wrap (2 + p3) = f := by rw [IntWalk.i64_in _ (by omega)]; exact hf
  have HP1 := hid hp1
  have HP2 := hid hp2
  have HP3 := hid hp3
  have W1 : Hid ((Lit.int .i64 kind).wf = true) := w1'
  have W2 : Hid ((Lit.int .i64 by_).wf = true) := w2'
  have W3 : Hid ((Lit.int .i64 from_).wf = true) := w3'
  have HS : Hid (∀ (l : List Ent) (c : CoreD), Led 5 5 l c → l.length ≤ 12 → StepIs (hearD c (stepM k f t)).1 t v ld) := fun l c h hl => step_heard h hl f25 t71 hc
  have HNF : Hid (∀ (l : List Ent) (c : CoreD), Led 5 5 l c → l.length ≤ 12 → c.base ≤ 9999 ∧ fitD (followD (stepD c (stepM k f t)) (stepM k f t)) 9999 t false = false) := fun l c h hl => ⟨by rw [h.base]; omega, by unfold fitD; rw [step_far h hl t71.1]; rfl⟩
  clear hl hw w1' w2' w3' hk ht hf hp1 hp2 hp3 q1 q2 q3
  go_enter Try.func6, Try.ntmps6
  go_wp2_with fail
  refine (old_any w ts a0 c0 P HL.out HTS.out).mono ?_
  rintro x w1 ⟨la, lq, rfl, f1, k1⟩
  have K1 := hid k1
  have L1 : Hid (ListAt entL w1 (fun _ => True) (.slice la (oldL ts).length lq) (oldL ts)) := OwnAt.list f1 (fun _ _ _ => trivial) (fun _ _ => trivial)
  clear f1 k1
  go_wp2_with fail
  refine (leads_any w1 2 5 (oldL ts) la lq _ (by decide) (by decide) L1.out (fun e he => by have := HOD.out e he; omega) (by omega) (oldNew_may ts (by omega) (by omega) (by omega))).mono ?_
  rintro x w2 ⟨n, c, lv, sv, rfl, hc2, hld, k2⟩
  have LD := hid hld
  have C2 := hid hc2
  have K2 : Hid (Keeps [] w w2) := K1.out.trans k2 (fun _ _ h => h)
  have HZ1 : Hid (w.heap.size ≤ w1.heap.size) := K1.out.size
  clear hld hc2 k2
  go_wp2_with fail
  refine (cTerm_is _ _ n c lv sv C2.out 6 LD.out.term).mono ?_
  rintro x w3 ⟨rfl, rfl⟩
  go_wp2_with fail
  refine (place_is p1 kind 5 _ (by omega) (by omega) W1.out HP1.out).mono ?_
  rintro x w4 ⟨rfl, rfl⟩
  go_wp2_with fail
  refine (place_is p2 by_ 1000 _ (by omega) (by omega) W2.out HP2.out).mono ?_
  rintro x w5 ⟨rfl, rfl⟩
  go_wp2_with fail
  refine (place_is p3 from_ 4 _ (by omega) (by omega) W3.out HP3.out).mono ?_
  rintro x w6 ⟨rfl, rfl⟩
  go_wp2_with fail
  refine (hear_but _ _ n c lv sv (stepM k f t) none none 0 0 C2.out (ListAt.nil _ _ _ _) (BytesAt.nil _ _ _ _) (by simp [stepM]) (by unfold lastD; rw [LD.out.base, LD.out.log]; simp; omega) (fun _ _ _ _ w1 h1 _ _ => by
    have h2 := HNF.out _ c LD.out hll
    exact append_no w1 _ n _ lv sv (stepM k f t) none none 0 0 h1 (by show (stepD c (stepM k f t)).base ≤ 9999; rw [step_c1 LD.out (by omega)]; exact h2.1) (by show (9999 : Int) ≤ _; omega) h2.2)).mono ?_
  rintro x w7 ⟨ra, rq, lv3, sv3, rfl, hc7, _, hk7, _⟩
  have C7 := hid hc7
  have K7 : Hid (Keeps [] w w7) := K2.out.trans hk7 (fun b hb hb' => by have := (C2.out.lt b hb').1; have := HZ1.out; omega)
  have HI := hid (HS.out _ c LD.out hll)
  generalize (hearD c (stepM k f t)).2.length = zl
  clear hc7 hk7
  have g0 : ((0 : Int) == f) = false := by simp; omega
  have g1 : (f == 0) = false := by simp; omega
  have f0 : f ≠ 0 := by omega
  clear wr1 wr2 wr3 HS HNF
  rcases hc with ⟨rfl, rfl, rfl⟩ | ⟨rfl, rfl, rfl⟩ | ⟨rfl, rfl, rfl⟩ | ⟨rfl, rfl, rfl⟩ | ⟨rfl, rfl, rfl⟩
  all_goals
    go_wp2_with fail
    refine (cVote_is _ _ n _ lv3 sv3 C7.out _ HI.out.2.2.1).mono ?_
    rintro x w8 ⟨rfl, rfl⟩
    go_wp2_with fail
    refine (cLeader_is _ _ n _ lv3 sv3 C7.out _ HI.out.2.2.2).mono ?_
    rintro x w9 ⟨rfl, rfl⟩
    go_wp2_with fail
    refine (cTerm_is _ _ n _ lv3 sv3 C7.out t HI.out.1).mono ?_
    rintro x w10 ⟨rfl, rfl⟩
    go_wp2_with fail
    refine (cRole_is _ _ n _ lv3 sv3 C7.out 0 HI.out.2.1).mono ?_
    rintro x w11 ⟨rfl, rfl⟩
    go_wp2_with fail
    refine (cVote_is _ _ n _ lv3 sv3 C7.out _ HI.out.2.2.1).mono ?_
    rintro x w12 ⟨rfl, rfl⟩
    go_wp2_with fail
    refine (cLeader_is _ _ n _ lv3 sv3 C7.out _ HI.out.2.2.2).mono ?_
    rintro x w13 ⟨rfl, rfl⟩
    go_wp2_with fail
    refine (cAwake_any _).mono ?_
    rintro x w14 ⟨rfl, k14⟩
    have K14 : Hid (Keeps [] w w14) := K7.out.trans k14 (fun _ _ h => h)
    clear k14
    go_wp2_with fail
    go_ret
    exact ⟨rfl, K14.out.below (Nat.le_refl _) (fun _ h => by cases h)⟩

end Go.Proofs.Ytpppoajnbhipeaa
