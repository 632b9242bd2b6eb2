/- Joined of HearB, GrowsD, Open, OpenL, OpN. -/
import Derived.Test.YtpppoajnbhipeaaApQ
import Derived.Test.YtpppoajnbhipeaaQ29
import Derived.Test.YtpppoajnbhipeaaQ12
import Derived.Test.YtpppoajnbhipeaaQ32
import Derived.Test.YtpppoajnbhipeaaRows
import Derived.Test.YtpppoajnbhipeaaQ00
import Derived.Deep.Slices
import Derived.ProofKit
import Derived.Test.YtpppoajnbhipeaaQ03

/- Hear, whole; Compact. -/
namespace Go.Proofs.Ytpppoajnbhipeaa
open Go Go.RowKit

set_option maxRecDepth 100000 in
set_option maxHeartbeats 3200000 in
theorem append_over (w : World) (B n : Nat) (c : CoreD) (lv sv : Value) (m : MsgD) (ea da : Option Addr) (ec dc : Nat) (h : CoreAt w B n c lv sv) (hb : m.a < c.base) (ha : 0 ≤ m.a) (ho : (m.entries.length : Int) ≤ c.base - m.a) :
    Calls Try.prog 59 #[.pointer (some ⟨n, 0, none⟩), msgV m (.slice ea m.entries.length ec) (.slice da m.data.length dc)] w (CallPost B n lv (c, answerD c m true c.base) w) := by
  have h15 : w.cell? ⟨n, 15, none⟩ = some (.int .i64 c.base) := h.blk.cell 15
  have hlt := h.blk.lt
  have hbs := h.ok.base
  have hbd := lastD_bd h
  have hcm := h.ok.commit
  have hla : lastD c = c.base + c.l.length := rfl
  have H := hid h
  have d1 : decide (m.a < c.base) = true := by simpa using hb
  have wr1 : IntKind.i64.wrap (c.base - m.a) = c.base - m.a := IntWalk.i64_in _ (by omega)
  unfold msgV
  clear h hb hbs hbd hcm hla
  go_enter Try.func59, Try.ntmps59
  go_wp2_with fail
  go_step3
  go_wp2_with fail
  go_quiet (fail)
  go_wp2_with fail
  refine Plan.wp_region_plan (fun wx => (wx.cell? ⟨w.heap.size, 0, none⟩ = some (.int .i64 m.kind) ∧ wx.cell? ⟨w.heap.size, 1, none⟩ = some (.int .i64 m.frm) ∧ wx.cell? ⟨w.heap.size, 2, none⟩ = some (.int .i64 m.to) ∧ wx.cell? ⟨w.heap.size, 3, none⟩ = some (.int .i64 m.term) ∧ wx.cell? ⟨w.heap.size, 4, none⟩ = some (.int .i64 m.a) ∧ wx.cell? ⟨w.heap.size, 5, none⟩ = some (.int .i64 m.b) ∧ wx.cell? ⟨w.heap.size, 6, none⟩ = some (.int .i64 m.c) ∧ wx.cell? ⟨w.heap.size, 7, none⟩ = some (.bool m.ok) ∧ wx.cell? ⟨w.heap.size, 8, none⟩ = some (.slice ea m.entries.length ec) ∧ wx.cell? ⟨w.heap.size, 9, none⟩ = some (.slice da m.data.length dc)) ∧ wx.cell? ⟨n, 15, none⟩ = some (.int .i64 c.base)) 6 [(true, 0), (true, 1), (true, 2), (true, 3), (true, 4), (true, 5)] (by kernel_rfl) (by as_aux_lemma => kernel_rfl) (by kernel_rfl) (fun _ _ _ _ _ h => h) ?_ (fun hS => ?_)
  (· go_simp)
  simp only [Plan.pick, List.append_eq, List.cons_append, List.nil_append, Plan.g1, Plan.g2, Option.getD_some, List.drop_succ_cons, List.drop_zero]
  iterate 6 (first | refine Plan.tA ?_ | refine Plan.tY ?_ | refine Plan.pN ?_ | refine Plan.pU ?_ | fail)
  refine Plan.fin ?_
  go_wp2_with fail
  refine (answer_any _ B n c lv sv m ea da ec dc true c.base (H.out.k ?_)).mono ?_
  (· exact Keeps.K)
  rintro e w4 hp
  obtain ⟨a, q, lv', sv', rfl, hp2⟩ : CallPost B n lv (c, answerD c m true c.base) w e w4 := CallPost.tells (H.out.k (by exact Keeps.K)) (Keeps.mono (F := []) (by exact Keeps.K) (fun _ _ h => by cases h)) hp
  have HP := hid hp2
  clear hp hp2
  go_wp2_with fail
  rw [Exit.noGoto_ret]
  go_ret
  exact ⟨a, q, lv', sv', rfl, HP.out⟩

theorem append_any (w : World) (B n : Nat) (c : CoreD) (lv sv : Value) (m : MsgD) (ea da : Option Addr) (ec dc : Nat) (P : Nat → Prop) (h : CoreAt w B n c lv sv) (hP : ∀ b, P b → Off n lv b) (hl : ListAt entL w P (.slice ea m.entries.length ec) m.entries) (he8 : m.entries.length ≤ 8) (het : ∀ e ∈ m.entries, 0 ≤ e.term ∧ e.term ≤ 1099511627776) (hed : ∀ e ∈ m.entries, e.data.length ≤ 1000000) (hll : lastD c + 8 ≤ 2199023255552) (ha : 0 ≤ m.a ∧ m.a ≤ 1099511627776) :
    Calls Try.prog 59 #[.pointer (some ⟨n, 0, none⟩), msgV m (.slice ea m.entries.length ec) (.slice da m.data.length dc)] w (CallPost B n lv (appendD c m) w) := by
  by_cases hb : c.base ≤ m.a
  · rcases hf : fitD c m.a m.b false with _ | _
    · exact append_no w B n c lv sv m ea da ec dc h hb ha.2 hf
    · have e : appendD c m = appEnd c m m.a m.entries := by
        unfold appendD
        rw [if_pos hb]
        unfold appendAt
        rw [hf]
        rfl
      rw [e]
      exact append_fit w B n c lv sv m ea da ec dc P h hP hl he8 het hed hll hb hf
  · by_cases ho : c.base - m.a < m.entries.length
    · obtain ⟨ov, hov⟩ : ∃ ov : Nat, c.base - m.a = (ov : Int) := ⟨(c.base - m.a).toNat, by omega⟩
      have e : appendD c m = appEnd c m c.base (m.entries.drop ov) := by
        unfold appendD
        rw [if_neg hb, if_pos ho, show (c.base - m.a).toNat = ov by omega]
        have hf : fitD c c.base m.b true = true := by unfold fitD atD; rw [if_pos rfl]; rfl
        unfold appendAt
        rw [hf]
        rfl
      rw [e]
      exact append_passed w B n c lv sv m ea da ec dc P h hP hl he8 het hed hll ov hov (by omega) (by omega) ha.1
    · have e : appendD c m = (c, answerD c m true c.base) := by
        unfold appendD
        rw [if_neg hb, if_neg ho]
      rw [e]
      exact append_over w B n c lv sv m ea da ec dc h (by omega) ha.1 (by omega)


theorem wrongD_terms {c : CoreD} {m : MsgD} (h : wrongD c m = false) : ∀ e ∈ m.entries, 1 ≤ e.term ∧ e.term ≤ m.term := fun e he => by
  unfold wrongD at h
  simp only [Bool.or_eq_false_iff, List.any_eq_false] at h
  have := h.2 e he
  simpa [inD] using this

theorem hear_any (w : World) (B n : Nat) (c : CoreD) (lv sv : Value) (m : MsgD) (ea da : Option Addr) (ec dc : Nat) (h : CoreAt w B n c lv sv) (hl : ListAt entL w (Off n lv) (.slice ea m.entries.length ec) m.entries) (hd : BytesAt w (Off n lv) (.slice da m.data.length dc) m.data)
    (hdl : m.data.length ≤ 1000000) (hed : ∀ e ∈ m.entries, e.data.length ≤ 1000000) (hll : lastD c + 8 ≤ 2199023255552) :
    Calls Try.prog 22 #[.pointer (some ⟨n, 0, none⟩), msgV m (.slice ea m.entries.length ec) (.slice da m.data.length dc)] w (CallPost B n lv (hearD c m) w) := by
  refine hear_but w B n c lv sv m ea da ec dc h hl hd hdl (by omega) (fun hw hk ht hr w1 h1 hl1 _ => ?_)
  have hz := hw
  unfold wrongD at hz
  simp only [Bool.or_eq_false_iff] at hz
  have hh := wrongHead_no hz.1
  have ht1 := hh.2.2.2.2.1
  exact append_any w1 B n _ lv sv m ea da ec dc _ h1 (fun b hb => hb) hl1 hh.2.2.2.2.2.2.2.2 (fun e he => by have := wrongD_terms hw e he; omega) hed (by show lastD (stepD c m) + 8 ≤ _; rw [stepD_last]; exact hll) hh.2.2.2.2.2.1

end Go.Proofs.Ytpppoajnbhipeaa

/- CoreGrows in plain words. -/
namespace Go.Proofs.Ytpppoajnbhipeaa
open Go Go.RowKit

/-- What a call may not undo. -/
structure GrowsR (c c' : CoreD) : Prop where
  term : c.term ≤ c'.term
  commit : c.commit ≤ c'.commit
  lead : c.role = 2 → c'.term = c.term → lastD c ≤ lastD c'
  ents : ∀ i, c.base < i → i ≤ c.commit → c'.base < i → entD c' i = entD c i
  last : lastD c' ≤ max (lastD c + 8) 549755813888
  pat : 0 ≤ c.patience → 0 ≤ c'.patience ∧ c'.patience ≤ c.patience + 1

/-- The log is the same one, or longer. -/
theorem grows_log {c c' : CoreD} (hc : c.base ≤ c.commit ∧ c.commit ≤ lastD c) {r : List Ent} (hl : c'.l = c.l ++ r) (hr : r.length ≤ 8) (hb : c'.base = c.base) (h1 : c.term ≤ c'.term) (h2 : c.commit ≤ c'.commit) (hp : 0 ≤ c.patience → 0 ≤ c'.patience ∧ c'.patience ≤ c.patience + 1) : GrowsR c c' := by
  have e : lastD c' = lastD c + r.length := by unfold lastD; rw [hl, hb, List.length_append]; omega
  refine ⟨h1, h2, fun _ _ => by omega, fun i i1 i2 i3 => ?_, by omega, hp⟩
  unfold entD
  rw [e, hb, if_neg (by omega), if_neg (by omega), hl, List.getElem?_append_left]
  unfold lastD at hc
  omega
theorem GrowsR.refl {c : CoreD} (hc : c.base ≤ c.commit ∧ c.commit ≤ lastD c) : GrowsR c c := grows_log hc (r := []) (by simp) (by simp) rfl (Int.le_refl _) (Int.le_refl _) (fun h => by omega)
theorem ok_commit {c : CoreD} (h : CoreOk c) : c.base ≤ c.commit ∧ c.commit ≤ lastD c := ⟨h.base.2, h.commit⟩

theorem fold_pat : ∀ (r : List Ent) (c : CoreD), (r.foldl putD c).patience = c.patience
  | [], _ => rfl
  | e :: r, c => fold_pat r (putD c e)
/-- What entries leave of the log. -/
structure PutsR (c c' : CoreD) (k : Nat) : Prop where
  term : c'.term = c.term
  commit : c'.commit = c.commit
  base : c'.base = c.base
  pat : c'.patience = c.patience
  keep : ∀ j : Nat, (j : Int) < c.commit - c.base → c'.l[j]? = c.l[j]?
  last : lastD c' ≤ lastD c + k
theorem puts_keep {c : CoreD} : ∀ (l : List Ent) (a : Int) (c' : CoreD), c.base ≤ a → a ≤ lastD c → putsD c a l = some c' → PutsR c c' l.length
  | [], a, c', _, _, h => by
    cases h
    exact ⟨rfl, rfl, rfl, rfl, fun _ _ => rfl, by simp⟩
  | e :: r, a, c', h1, h2, h => by
    by_cases hm : (atD c (a + 1)).2 = true ∧ (atD c (a + 1)).1 = e.term
    · rw [puts_match hm] at h
      have h3 : a + 1 ≤ lastD c := by
        have h4 := hm.1
        unfold atD at h4
        split at h4
        · omega
        · split at h4
          · cases h4
          · omega
      have h5 := puts_keep r (a + 1) c' (by omega) h3 h
      exact ⟨h5.term, h5.commit, h5.base, h5.pat, h5.keep, by have := h5.last; simp; omega⟩
    · by_cases hn : a + 1 ≤ c.commit ∨ 5096 < a - c.base + ((r.length : Int) + 1)
      · rw [puts_none hm hn] at h
        cases h
      · rw [puts_some hm hn] at h
        cases h
        have hs := fold_same (e :: r) { c with l := c.l.take (a - c.base).toNat }
        refine ⟨hs.1.term, hs.1.commit, hs.1.base, fold_pat _ _, fun j hj => ?_, ?_⟩
        · rw [hs.2]
          show (c.l.take (a - c.base).toNat ++ (e :: r))[j]? = _
          have hlen : (c.l.take (a - c.base).toNat).length = (a - c.base).toNat := by unfold lastD at h2; simp; omega
          rw [List.getElem?_append_left (by rw [hlen]; omega), List.getElem?_take_of_lt (by omega)]
        · unfold lastD
          rw [hs.2, hs.1.base]
          show c.base + ((c.l.take (a - c.base).toNat ++ (e :: r)).length : Int) ≤ c.base + c.l.length + ((e :: r).length : Int)
          rw [List.length_append, List.length_take]
          omega
theorem puts_grows {c c' : CoreD} {v : Int} {l : List Ent} (hok : CoreOk c) (hr : c.role ≠ 2) (h : PutsR c c' l.length) (hl : l.length ≤ 8) : GrowsR c { c' with commit := max c.commit v } := by
  have hc := ok_commit hok
  refine ⟨by show c.term ≤ c'.term; rw [h.term]; omega, by show c.commit ≤ max c.commit v; omega, fun h2 => absurd h2 hr, fun i i1 i2 i3 => ?_, ?_, fun hp => by show 0 ≤ c'.patience ∧ c'.patience ≤ c.patience + 1; rw [h.pat]; omega⟩
  · have hk := h.keep (i - c.base - 1).toNat (by omega)
    have hcl : (i - c.base - 1).toNat < c.l.length := by unfold lastD at hc; omega
    have hsome : c'.l[(i - c.base - 1).toNat]? = some (c.l[(i - c.base - 1).toNat]'hcl) := by rw [hk]; exact List.getElem?_eq_getElem _
    have hlt := (List.getElem?_eq_some_iff.1 hsome).1
    unfold entD lastD
    show (if i ≤ c'.base ∨ c'.base + (c'.l.length : Int) < i then none else c'.l[(i - c'.base - 1).toNat]?) = _
    rw [h.base, if_neg (by omega), if_neg (by unfold lastD at hc; omega), hk]
  · show lastD c' ≤ _
    have := h.last
    omega

theorem append_grows {c : CoreD} {m : MsgD} (hok : CoreOk c) (hr : c.role ≠ 2) (he : m.entries.length ≤ 8) : GrowsR c (appendD c m).1 := by
  have hc := ok_commit hok
  have hat : ∀ (a : Int) (l : List Ent) (ps : Bool), c.base ≤ a → l.length ≤ 8 → GrowsR c (appendAt c m a l ps).1 := fun a l ps ha hl => by
    unfold appendAt
    rcases hf : fitD c a m.b ps with _ | _
    · exact GrowsR.refl hc
    · have hal : a ≤ lastD c := by
        unfold fitD at hf
        simp only [Bool.and_eq_true] at hf
        have h2 := hf.1
        unfold atD at h2
        split at h2
        · have := hok.commit; unfold lastD; omega
        · split at h2
          · cases h2
          · omega
      rcases hp : putsD c a l with _ | c'
      · exact GrowsR.refl hc
      · exact puts_grows hok hr (puts_keep l a c' ha hal hp) hl
  unfold appendD
  split
  · exact hat _ _ _ (by assumption) he
  · split
    · exact hat _ _ _ (Int.le_refl _) (by rw [List.length_drop]; omega)
    · exact GrowsR.refl hc

theorem takes_grows {c : CoreD} {m : MsgD} (hok : CoreOk c) (hr : c.role ≠ 2) (ha : m.a ≤ 549755813888) : GrowsR c (takesD c m).1 := by
  have hc := ok_commit hok
  unfold takesD
  split
  · exact GrowsR.refl hc
  · rename_i hlt
    split
    · rename_i hf
      have hal : c.base < m.a ∧ m.a ≤ lastD c := by
        refine ⟨by omega, ?_⟩
        have h2 := hf.1
        unfold atD at h2
        split at h2
        · omega
        · split at h2
          · cases h2
          · omega
      refine ⟨Int.le_refl _, by show c.commit ≤ m.a; omega, fun h => absurd h hr, fun i _ i2 i3 => ?_, ?_, fun hp => by show 0 ≤ c.patience ∧ c.patience ≤ c.patience + 1; omega⟩
      · have i3 : m.a < i := i3
        omega
      · show m.a + ((c.l.drop (m.a - c.base).toNat).length : Int) ≤ _
        rw [List.length_drop]
        unfold lastD at hal ⊢
        omega
    · refine ⟨Int.le_refl _, by show c.commit ≤ m.a; omega, fun h => absurd h hr, fun i _ i2 i3 => ?_, ?_, fun hp => by show 0 ≤ c.patience ∧ c.patience ≤ c.patience + 1; omega⟩
      · have i3 : m.a < i := i3
        omega
      · show m.a + ((0 : Nat) : Int) ≤ _
        omega

theorem voted_grows {c : CoreD} {m : MsgD} (hok : CoreOk c) : GrowsR c (votedD c m).1 := by
  have hc := ok_commit hok
  unfold votedD
  split
  · exact GrowsR.refl hc
  · split
    · exact grows_log hc (r := []) (by show c.l = c.l ++ []; simp) (by simp) rfl (Int.le_refl _) (Int.le_refl _) (fun h => by show 0 ≤ c.patience ∧ c.patience ≤ _; omega)
    · show GrowsR c (leadD (votedC c m))
      unfold leadD
      split
      · exact grows_log hc (r := [{ term := c.term, cmd := false, data := [] }]) rfl (by simp) rfl (Int.le_refl _) (Int.le_refl _) (fun h => by show (0 : Int) ≤ 0 ∧ (0 : Int) ≤ _; omega)
      · exact grows_log hc (r := []) (by show c.l = c.l ++ []; simp) (by simp) rfl (Int.le_refl _) (Int.le_refl _) (fun h => by show (0 : Int) ≤ 0 ∧ (0 : Int) ≤ _; omega)
theorem asked_grows {c : CoreD} {m : MsgD} (hok : CoreOk c) : GrowsR c (askedD c m).1 := by
  have hc := ok_commit hok
  show GrowsR c (askedC c m)
  unfold askedC
  split
  · exact grows_log hc (r := []) (by show c.l = c.l ++ []; simp) (by simp) rfl (Int.le_refl _) (Int.le_refl _) (fun h => by show (0 : Int) ≤ 0 ∧ (0 : Int) ≤ _; omega)
  · exact GrowsR.refl hc
theorem appended_grows {c : CoreD} {m : MsgD} (hok : CoreOk c) : GrowsR c (appendedD c m).1 := by
  have hc := ok_commit hok
  unfold appendedD
  split
  · exact GrowsR.refl hc
  · split
    · exact grows_log hc (r := []) (by show c.l = c.l ++ []; simp) (by simp) rfl (Int.le_refl _) (Int.le_refl _) (fun h => by show 0 ≤ c.patience ∧ c.patience ≤ _; omega)
    · exact grows_log hc (r := []) (by show c.l = c.l ++ []; simp) (by simp) rfl (Int.le_refl _) (agreesTo_bd (appYes c m) _).1 (fun h => by show 0 ≤ c.patience ∧ c.patience ≤ _; omega)
theorem GrowsR.follow {c c' : CoreD} {m : MsgD} (hr : c.role ≠ 2) (h : GrowsR (followD c m) c') (hok : CoreOk c) : GrowsR c c' :=
  ⟨h.term, h.commit, fun h2 => absurd h2 hr, h.ents, h.last, fun hp => by have := h.pat (by show (0 : Int) ≤ 0; omega); have h3 : c'.patience ≤ 0 + 1 := this.2; omega⟩
theorem heard_grows {c : CoreD} {m : MsgD} (hok : CoreOk c) (he : m.entries.length ≤ 8) : GrowsR c (heardD c m).1 := by
  have hc := ok_commit hok
  unfold heardD
  split
  · exact asked_grows hok
  split
  · exact voted_grows hok
  split
  · exact appended_grows hok
  split
  · exact GrowsR.refl hc
  split
  · exact GrowsR.refl hc
  · rename_i hn
    have hr : c.role ≠ 2 := fun h => hn (.inl h)
    split
    · rename_i hk
      refine GrowsR.follow (m := m) hr (takes_grows (followD_ok hok m) (by show (0 : Int) ≠ 2; decide) ?_) hok
      have hs : snapNo m = false := by
        cases h : snapNo m
        · rfl
        · exact absurd (.inr h) hn
      unfold snapNo at hs
      rw [hk] at hs
      simp [inD] at hs
      exact hs.1.2
    · exact GrowsR.follow (m := m) hr (append_grows (followD_ok hok m) (by show (0 : Int) ≠ 2; decide) he) hok
theorem hear_grows {c : CoreD} {m : MsgD} (hok : CoreOk c) : GrowsR c (hearD c m).1 := by
  have hc := ok_commit hok
  unfold hearD
  split
  · exact GrowsR.refl hc
  · rename_i hw
    have hw : wrongD c m = false := by simpa using hw
    have hz := hw
    unfold wrongD at hz
    simp only [Bool.or_eq_false_iff] at hz
    have he := (wrongHead_no hz.1).2.2.2.2.2.2.2.2
    have h := heard_grows (c := stepD c m) (stepD_ok hok hw) he
    by_cases hs : c.term < m.term
    · have e : stepD c m = { risesD c m.term 0 with role := 0, leader := 0 } := by unfold stepD; rw [if_pos hs]
      rw [e] at h ⊢
      have ht : m.term ≤ (heardD { risesD c m.term 0 with role := 0, leader := 0 } m).1.term := h.term
      exact ⟨by omega, h.commit, fun _ h3 => by omega, h.ents, h.last, h.pat⟩
    · have e : stepD c m = c := by unfold stepD; rw [if_neg hs]
      rw [e] at h ⊢
      exact h
theorem tick_grows {c : CoreD} (hok : CoreOk c) : GrowsR c (tickD c).1 := by
  have hc := ok_commit hok
  by_cases hr : c.role = 2
  · by_cases hh : c.patience + 1 < c.conf.heart
    · rw [tickD_still hr hh]
      exact grows_log hc (r := []) (by show c.l = c.l ++ []; simp) (by simp) rfl (Int.le_refl _) (Int.le_refl _) (fun h => by show 0 ≤ c.patience + 1 ∧ c.patience + 1 ≤ _; omega)
    · rw [tickD_sends hr hh]
      exact grows_log hc (r := []) (by show c.l = c.l ++ []; simp) (by simp) rfl (Int.le_refl _) (Int.le_refl _) (fun h => by show (0 : Int) ≤ 0 ∧ (0 : Int) ≤ _; omega)
  · by_cases hw : c.patience + 1 < c.conf.lo + c.draw ∨ 1099511627776 ≤ c.term
    · rw [tickD_waits hr hw]
      exact grows_log hc (r := []) (by show c.l = c.l ++ []; simp) (by simp) rfl (Int.le_refl _) (Int.le_refl _) (fun h => by show 0 ≤ c.patience + 1 ∧ c.patience + 1 ≤ _; omega)
    · rw [tickD_runs hr hw]
      exact grows_log hc (r := []) (by show c.l = c.l ++ []; simp) (by simp) rfl (by show c.term ≤ c.term + 1; omega) (Int.le_refl _) (fun h => by show (0 : Int) ≤ 0 ∧ (0 : Int) ≤ _; omega)
theorem draw_grows {c : CoreD} (hok : CoreOk c) (v : Int) : GrowsR c (drawD c v) :=
  grows_log (ok_commit hok) (r := []) (by show c.l = c.l ++ []; simp) (by simp) rfl (Int.le_refl _) (Int.le_refl _) (fun h => by show 0 ≤ c.patience ∧ c.patience ≤ _; omega)
theorem ask_grows {c : CoreD} (hok : CoreOk c) (d : List UInt8) : GrowsR c (askD c d).1 := by
  have hc := ok_commit hok
  unfold askD
  split
  · exact GrowsR.refl hc
  · split
    · exact GrowsR.refl hc
    · exact grows_log hc (r := [{ term := c.term, cmd := true, data := d }]) rfl (by simp) rfl (Int.le_refl _) (Int.le_refl _) (fun h => by show 0 ≤ c.patience ∧ c.patience ≤ _; omega)

end Go.Proofs.Ytpppoajnbhipeaa

/- THE ARGUMENTS OF THE LAWS, OPENED: slices of bytes, of ints, and single ints, as the walks want them. No function is named here. -/
namespace Go.Proofs.Ytpppoajnbhipeaa
open Go Go.RowKit Go.WideShapes Go.ChangeShapes Go.Deep

theorem spot_of_cell {w : World} {a : Addr} {v : Value} (h : w.cell? a = some v) : a.spot = none := by
  unfold World.cell? at h
  split at h
  · split at h
    · cases h
    · rename_i hs; simpa using hs
  · cases h

theorem addr_at {a : Addr} (h : a.spot = none) (i : Nat) : a.add i = ⟨a.block, a.off + i, none⟩ := by
  unfold Addr.add
  cases a; simp at h; subst h
  split
  · rename_i h0; subst h0; rfl
  · rfl

theorem block_lt {w : World} {a : Addr} {v : Value} (h : w.cell? a = some v) : a.block < w.heap.size := by
  unfold World.cell? at h
  split at h
  · rename_i hs; exact (Array.getElem?_eq_some_iff.1 hs).1
  · cases h

/-- The bytes of numbers. -/
def ofNums (zs : List Int) : List UInt8 := zs.map fun z => UInt8.ofNat z.toNat

theorem ofNums_get {zs : List Int} (h : ∀ n ∈ zs, (Lit.int .u8 n).wf = true) {i : Nat} (hi : i < zs.length) : (u8s (ofNums zs))[i]? = some (.int .u8 (zs.getD i 0)) := by
  have hw := h zs[i] (List.getElem_mem hi)
  have hb : 0 ≤ zs[i] ∧ zs[i] < 256 := by
    have e1 : IntKind.u8.min = 0 := by rfl
    have e2 : IntKind.u8.max = 255 := by rfl
    simp [Lit.wf, e1, e2] at hw
    omega
  simp [u8s, ofNums, List.getD, List.getElem?_eq_getElem hi]
  omega

section
variable {H : Type} {enc : TypeId × Value → H}

/-- A SLICE OF BYTES. -/
theorem open_bytes {w : World} {fuel : Nat} {cs : List Value} {x : DataW H × List MemPlace} (h : DataW.trod enc Try.prog w 0 (fun _ => true) true fuel 38 cs = some x) :
    ∃ (a : Option Addr) (c : Nat) (bs : List UInt8), cs = [.slice a bs.length c] ∧ Reads w 1 (.slice a bs.length c) bs.length (u8s bs) ∧ ∀ k ∈ ownB (.slice a bs.length c), bs.length ≠ 0 → k < w.heap.size := by
  rcases open_ints Try.underlying38 Try.underlying5 (by kernel_rfl) h with ⟨rfl, _⟩ | ⟨a, len, cap, zs, rfl, _, hlc, hcm, hzs, _, hc, hw⟩
  · exact ⟨none, 0, [], rfl, ⟨rfl, .inl ⟨rfl, _, _, rfl⟩⟩, fun k _ h => absurd rfl h⟩
  · simp only [if_true] at hzs
    have hl : (ofNums (zs.take len)).length = len := by simp [ofNums]; omega
    refine ⟨some a, cap, ofNums (zs.take len), by rw [hl], ?_, ?_⟩
    · refine ⟨by simp [u8s], ?_⟩
      rcases Nat.eq_zero_or_pos len with rfl | hp
      · exact .inl ⟨hl, _, _, by rw [hl]⟩
      · have h0 := hc 0 (by omega)
        have hs : a.spot = none := by simpa [Addr.add] using spot_of_cell h0
        obtain ⟨b, off, sp⟩ := a
        simp at hs
        subst hs
        refine .inr ⟨by omega, b, off, cap, by rw [hl], by omega, hcm, by simpa [Addr.add] using block_lt h0, fun j u hu => ?_⟩
        have hj : j < len := by have := (List.getElem?_eq_some_iff.1 hu).1; simp [hl] at this; exact this
        rw [ofNums_get (fun n hn => hw n (List.mem_of_mem_take hn)) (by simp; omega)] at hu
        have := hc j (by omega)
        rw [addr_at rfl] at this
        simp at this
        rw [this, ← hu]
        simp [List.getD, List.getElem?_take, hj]
    · intro k hk h0
      have h1 := hc 0 (by omega)
      have h2 := block_lt h1
      simp [mem_ownB, Value.ownBlock, Addr.add] at hk h2
      omega

theorem open_num {w : World} {fuel : Nat} {t : TypeId} {k : IntKind} {cs : List Value} {x : DataW H × List MemPlace} (ht : Try.prog.underlying t = some (.int k)) (h : DataW.trod enc Try.prog w 0 (fun _ => true) true fuel t cs = some x) :
    ∃ n, cs = [.int k n] ∧ (Lit.int k n).wf = true := by
  obtain ⟨n', h, hx, hw⟩ := DataW.trod_int ht h
  exact ⟨n', h, hw⟩

/-- A SLICE OF BYTES that comes in. -/
theorem open_bytes_arg {w : World} {a : Option Addr} {len cap : Nat} {d : DataW H} {ps : List MemPlace} (h : DataW.Trod enc Try.prog w 0 (fun _ => true) true 38 (.slice a len cap) d ps) :
    ∃ bs : List UInt8, bs.length = len ∧ Reads w 1 (.slice a bs.length cap) bs.length (u8s bs) ∧ ∀ k ∈ ownB (.slice a bs.length cap), bs.length ≠ 0 → k < w.heap.size := by
  obtain ⟨fuel, h⟩ := h
  obtain ⟨a', c', bs, e, hr, hb⟩ := open_bytes h
  simp [Value.cells] at e
  obtain ⟨rfl, rfl, rfl⟩ := e
  exact ⟨bs, rfl, hr, hb⟩
end

end Go.Proofs.Ytpppoajnbhipeaa

/- THE ARGUMENTS OF THE LAWS, OPENED: lists of entries, of messages, of numbers. -/
namespace Go.Proofs.Ytpppoajnbhipeaa
open Go Go.RowKit Go.WideShapes Go.ChangeShapes Go.Deep

section
variable {H : Type} {enc : TypeId × Value → H}

theorem open_list {α : Type} (L : Lay α) {et st : TypeId} (good : α → Prop) (ht : Try.prog.underlying st = some (.slice et)) (hcell : Try.prog.cellsOf et = L.size) {w : World}
    (hone : ∀ (fuel : Nat) (cs : List Value) (x : DataW H × List MemPlace), DataW.trod enc Try.prog w 0 (fun _ => true) true fuel et cs = some x → cs.length = L.size → ∃ e, L.at_ w (fun b => b < w.heap.size) cs e ∧ good e)
    {fuel : Nat} {cs : List Value} {x : DataW H × List MemPlace} (h : DataW.trod enc Try.prog w 0 (fun _ => true) true fuel st cs = some x) :
    ∃ (a : Option Addr) (l : List α) (c : Nat), cs = [.slice a l.length c] ∧ ListAt L w (fun b => b < w.heap.size) (.slice a l.length c) l ∧ ∀ e ∈ l, good e := by
  rcases open_slice ht h with ⟨rfl, _⟩ | ⟨a, len, cap, m, n, D, Pl, rfl, _, hlc, hcm, hm, _, hel⟩
  · exact ⟨none, [], 0, rfl, ListAt.nil _ _ _ _, by simp⟩
  · simp only [if_true] at hm
    subst hm
    rw [hcell] at hel
    have hp := L.pos
    have hsp : 0 < len → a.spot = none := fun h0 => by
      obtain ⟨cs', h1, h2⟩ := hel 0 (by omega)
      have := (World.cells?_some h1).2.2 0 (by omega)
      have hl := (World.cells?_some h1).2.1
      rw [List.getElem?_eq_getElem (by omega)] at this
      simpa [Addr.add] using spot_of_cell this
    have key : ∀ k, k ≤ len → ∃ (css : List (List Value)) (l : List α), l.length = k ∧ ElemsAt L w (fun b => b < w.heap.size) css l ∧ (∀ (j : Nat) (c : List Value), css[j]? = some c → w.cells? 0 (a.add (j * L.size)) L.size = some c) ∧ ∀ e ∈ l, good e := by
      intro k
      induction k with
      | zero => exact fun _ => ⟨[], [], rfl, ElemsAt.nil _ _, by simp, by simp⟩
      | succ k ih =>
        intro hk
        obtain ⟨css, l, hl, he, hc, hg⟩ := ih (by omega)
        obtain ⟨cs', h1, h2⟩ := hel k (by omega)
        obtain ⟨e, e1, e2⟩ := hone _ _ _ h2 (World.cells?_some h1).2.1
        refine ⟨css ++ [cs'], l ++ [e], by simp [hl], he.snoc e1, fun j c hj => ?_, fun x hx => ?_⟩
        · rw [List.getElem?_append] at hj
          split at hj
          · exact hc j c hj
          · have h3 := he.1
            have h4 : j - css.length = 0 := by
              have := (List.getElem?_eq_some_iff.1 hj).1
              simp at this
              omega
            rw [h4] at hj
            simp at hj
            subst hj
            rw [show j = k by omega]
            exact h1
        · rcases List.mem_append.1 hx with hx | hx
          · exact hg x hx
          · simp at hx
            rw [hx]
            exact e2
    obtain ⟨css, l, hl, he, hc, hg⟩ := key len (Nat.le_refl _)
    have cell : ∀ (i r : Nat) (u : Value) (c : List Value), css[i]? = some c → c[r]? = some u → r < L.size → w.cell? ⟨a.block, a.off + i * L.size + r, none⟩ = some u := fun i r u c h1 h2 h3 => by
      have h4 := (World.cells?_some (hc i c h1)).2.2 r h3
      have hi : i < len := by have := (List.getElem?_eq_some_iff.1 h1).1; rw [he.1, hl] at this; exact this
      rw [addr_at (hsp (by omega)), addr_at rfl] at h4
      rw [← h2]
      exact h4
    have blk : 0 < len → a.block < w.heap.size := fun h0 => by
      obtain ⟨cs', h1, h2⟩ := hel 0 (by omega)
      have h3 := (World.cells?_some h1).2.2 0 hp
      have hl' := (World.cells?_some h1).2.1
      rw [List.getElem?_eq_getElem (by omega)] at h3
      have := block_lt h3
      simpa [Addr.add] using this
    subst hl
    refine ⟨some a, l, _, rfl, ⟨css, he, ⟨?_, ?_⟩, ?_⟩, hg⟩
    · rw [flatten_length (n := L.size) he.lens, he.1]
    · rcases Nat.eq_zero_or_pos l.length with h0 | h0
      · exact .inl ⟨h0, _, _, by rw [h0]⟩
      · refine .inr ⟨h0, a.block, a.off, _, ?_, hlc, hcm, blk h0, fun j u hu => ?_⟩
        · have := hsp h0
          cases a; simp at this; subst this; rfl
        · have hj := (List.getElem?_eq_some_iff.1 hu).1
          rw [flatten_length (n := L.size) he.lens] at hj
          have hi : j / L.size < css.length := Nat.div_lt_of_lt_mul (by rw [Nat.mul_comm]; exact hj)
          have hr : j % L.size < L.size := Nat.mod_lt _ hp
          have e1 : j / L.size * L.size + j % L.size = j := by rw [Nat.mul_comm]; exact Nat.div_add_mod j L.size
          have hg2 := flatten_get (n := L.size) he.lens (i := j / L.size) (j := j % L.size) (List.getElem?_eq_getElem hi) hr
          rw [e1, hu] at hg2
          have := cell _ _ u _ (List.getElem?_eq_getElem hi) hg2.symm hr
          rw [Nat.add_assoc, e1] at this
          exact this
    · intro h0 b hb
      simp [mem_ownB, Value.ownBlock] at hb
      subst hb
      exact blk (by omega)

/-- A LIST that comes in. -/
theorem open_list_arg {α : Type} (L : Lay α) {et st : TypeId} (good : α → Prop) (ht : Try.prog.underlying st = some (.slice et)) (hcell : Try.prog.cellsOf et = L.size) {w : World}
    (hone : ∀ (fuel : Nat) (cs : List Value) (x : DataW H × List MemPlace), DataW.trod enc Try.prog w 0 (fun _ => true) true fuel et cs = some x → cs.length = L.size → ∃ e, L.at_ w (fun b => b < w.heap.size) cs e ∧ good e)
    {a : Option Addr} {len cap : Nat} {d : DataW H} {ps : List MemPlace} (h : DataW.Trod enc Try.prog w 0 (fun _ => true) true st (.slice a len cap) d ps) :
    ∃ l : List α, l.length = len ∧ ListAt L w (fun b => b < w.heap.size) (.slice a l.length cap) l ∧ ∀ e ∈ l, good e := by
  obtain ⟨fuel, h⟩ := h
  obtain ⟨a', l, c', e, hl, hg⟩ := open_list L good ht hcell hone h
  simp [Value.cells] at e
  obtain ⟨rfl, rfl, rfl⟩ := e
  exact ⟨l, rfl, hl, hg⟩

theorem open_bytesAt {w : World} {fuel : Nat} {cs : List Value} {x : DataW H × List MemPlace} (h : DataW.trod enc Try.prog w 0 (fun _ => true) true fuel 38 cs = some x) : ∃ v bs, cs = [v] ∧ BytesAt w (fun b => b < w.heap.size) v bs := by
  obtain ⟨a, c, bs, rfl, h1, h2⟩ := open_bytes h
  exact ⟨_, bs, rfl, h1, fun hn b hb => h2 b hb hn⟩

def IntW (n : Int) : Prop := (Lit.int .i64 n).wf = true
def EntW (e : Ent) : Prop := IntW e.term
structure MsgW (m : MsgD) : Prop where
  kind : IntW m.kind
  frm : IntW m.frm
  to : IntW m.to
  term : IntW m.term
  a : IntW m.a
  b : IntW m.b
  c : IntW m.c
  ents : ∀ e ∈ m.entries, EntW e

/-- A number in one cell. -/
def intL : Lay Int where
  size := 1
  pos := by decide
  at_ _ _ cs z := cs = [.int .i64 z]
  len := fun e => by rw [e]; rfl
  one := fun e u hu => by
    rw [e] at hu
    simp at hu
    rw [hu]; rfl
  keep := fun e _ _ => e
  mono := fun e _ => e

theorem open_int1 (w : World) (fuel : Nat) (cs : List Value) (x : DataW H × List MemPlace) (h : DataW.trod enc Try.prog w 0 (fun _ => true) true fuel 3 cs = some x) (_hl : cs.length = 1) : ∃ e, intL.at_ w (fun b => b < w.heap.size) cs e ∧ IntW e := by
  obtain ⟨n, r, h2⟩ := open_num Try.underlying3 h
  exact ⟨n, r, h2⟩

set_option maxRecDepth 100000 in
theorem open_ent (w : World) (fuel : Nat) (cs : List Value) (x : DataW H × List MemPlace) (h : DataW.trod enc Try.prog w 0 (fun _ => true) true fuel 59 cs = some x) (_hl : cs.length = 3) : ∃ e, entL.at_ w (fun b => b < w.heap.size) cs e ∧ EntW e := by
  obtain ⟨xs, n, rfl, _, hl, hxs, hf⟩ := DataW.trod_struct Try.underlying59 h
  have e3 : Try.prog.cellsOf 59 = 3 := by kernel_rfl
  have eI : Try.prog.cellsOf 3 = 1 := by kernel_rfl
  have eO : Try.prog.cellsOf 4 = 1 := by kernel_rfl
  have eB : Try.prog.cellsOf 38 = 1 := by kernel_rfl
  rw [e3] at hl
  have hx : ∀ i, i < 3 → ∃ y, xs[i]? = some y := fun i hi => ⟨xs[i]'(by rw [hxs]; exact hi), List.getElem?_eq_getElem _⟩
  match cs, hl with
  | [v0, v1, v2], _ =>
    obtain ⟨y0, g0⟩ := hx 0 (by omega)
    obtain ⟨y1, g1⟩ := hx 1 (by omega)
    obtain ⟨y2, g2⟩ := hx 2 (by omega)
    have f0 : DataW.trod enc Try.prog w 0 (fun _ => true) true n 3 [v0] = some y0 := by simpa [eI, g0] using hf 0 ⟨ "Term", 3, 0, false, "", "", 0⟩ rfl
    have f1 : DataW.trod enc Try.prog w 0 (fun _ => true) true n 4 [v1] = some y1 := by simpa [eO, g1] using hf 1 ⟨ "Cmd", 4, 1, false, "", "", 8⟩ rfl
    have f2 : DataW.trod enc Try.prog w 0 (fun _ => true) true n 38 [v2] = some y2 := by simpa [eB, g2] using hf 2 ⟨ "Data", 38, 2, false, "", "", 16⟩ rfl
    obtain ⟨n0, r0, w0⟩ := open_num Try.underlying3 f0
    obtain ⟨b1, r1, _⟩ := DataW.trod_bool Try.underlying4 f1
    obtain ⟨v, bs, r2, hb⟩ := open_bytesAt f2
    simp at r0 r1 r2
    subst r0 r1 r2
    exact ⟨⟨n0, b1, bs⟩, ⟨_, rfl, hb⟩, w0⟩

set_option maxRecDepth 100000 in
theorem open_msg (w : World) (fuel : Nat) (cs : List Value) (x : DataW H × List MemPlace) (h : DataW.trod enc Try.prog w 0 (fun _ => true) true fuel 40 cs = some x) (_hl : cs.length = 10) : ∃ m, msgL.at_ w (fun b => b < w.heap.size) cs m ∧ MsgW m := by
  obtain ⟨xs, n, rfl, _, hl, hxs, hf⟩ := DataW.trod_struct Try.underlying40 h
  have e10 : Try.prog.cellsOf 40 = 10 := by kernel_rfl
  have eI : Try.prog.cellsOf 3 = 1 := by kernel_rfl
  have eO : Try.prog.cellsOf 4 = 1 := by kernel_rfl
  have eE : Try.prog.cellsOf 35 = 1 := by kernel_rfl
  have eB : Try.prog.cellsOf 38 = 1 := by kernel_rfl
  rw [e10] at hl
  have hx : ∀ i, i < 10 → ∃ y, xs[i]? = some y := fun i hi => ⟨xs[i]'(by rw [hxs]; exact hi), List.getElem?_eq_getElem _⟩
  match cs, hl with
  | [v0, v1, v2, v3, v4, v5, v6, v7, v8, v9], _ =>
    obtain ⟨y0, g0⟩ := hx 0 (by omega)
    obtain ⟨y1, g1⟩ := hx 1 (by omega)
    obtain ⟨y2, g2⟩ := hx 2 (by omega)
    obtain ⟨y3, g3⟩ := hx 3 (by omega)
    obtain ⟨y4, g4⟩ := hx 4 (by omega)
    obtain ⟨y5, g5⟩ := hx 5 (by omega)
    obtain ⟨y6, g6⟩ := hx 6 (by omega)
    obtain ⟨y7, g7⟩ := hx 7 (by omega)
    obtain ⟨y8, g8⟩ := hx 8 (by omega)
    obtain ⟨y9, g9⟩ := hx 9 (by omega)
    have f0 : DataW.trod enc Try.prog w 0 (fun _ => true) true n 3 [v0] = some y0 := by simpa [eI, g0] using hf 0 ⟨ "Kind", 3, 0, false, "", "", 0⟩ rfl
    have f1 : DataW.trod enc Try.prog w 0 (fun _ => true) true n 3 [v1] = some y1 := by simpa [eI, g1] using hf 1 ⟨ "From", 3, 1, false, "", "", 8⟩ rfl
    have f2 : DataW.trod enc Try.prog w 0 (fun _ => true) true n 3 [v2] = some y2 := by simpa [eI, g2] using hf 2 ⟨ "To", 3, 2, false, "", "", 16⟩ rfl
    have f3 : DataW.trod enc Try.prog w 0 (fun _ => true) true n 3 [v3] = some y3 := by simpa [eI, g3] using hf 3 ⟨ "Term", 3, 3, false, "", "", 24⟩ rfl
    have f4 : DataW.trod enc Try.prog w 0 (fun _ => true) true n 3 [v4] = some y4 := by simpa [eI, g4] using hf 4 ⟨ "A", 3, 4, false, "", "", 32⟩ rfl
    have f5 : DataW.trod enc Try.prog w 0 (fun _ => true) true n 3 [v5] = some y5 := by simpa [eI, g5] using hf 5 ⟨ "B", 3, 5, false, "", "", 40⟩ rfl
    have f6 : DataW.trod enc Try.prog w 0 (fun _ => true) true n 3 [v6] = some y6 := by simpa [eI, g6] using hf 6 ⟨ "C", 3, 6, false, "", "", 48⟩ rfl
    have f7 : DataW.trod enc Try.prog w 0 (fun _ => true) true n 4 [v7] = some y7 := by simpa [eO, g7] using hf 7 ⟨ "Ok", 4, 7, false, "", "", 56⟩ rfl
    have f8 : DataW.trod enc Try.prog w 0 (fun _ => true) true n 35 [v8] = some y8 := by simpa [eE, g8] using hf 8 ⟨ "Entries", 35, 8, false, "", "", 64⟩ rfl
    have f9 : DataW.trod enc Try.prog w 0 (fun _ => true) true n 38 [v9] = some y9 := by simpa [eB, g9] using hf 9 ⟨ "Data", 38, 9, false, "", "", 88⟩ rfl
    obtain ⟨n0, r0, w0⟩ := open_num Try.underlying3 f0
    obtain ⟨n1, r1, w1⟩ := open_num Try.underlying3 f1
    obtain ⟨n2, r2, w2⟩ := open_num Try.underlying3 f2
    obtain ⟨n3, r3, w3⟩ := open_num Try.underlying3 f3
    obtain ⟨n4, r4, w4⟩ := open_num Try.underlying3 f4
    obtain ⟨n5, r5, w5⟩ := open_num Try.underlying3 f5
    obtain ⟨n6, r6, w6⟩ := open_num Try.underlying3 f6
    obtain ⟨b7, r7, _⟩ := DataW.trod_bool Try.underlying4 f7
    obtain ⟨a8, l8, c8, r8, h8, g8'⟩ := open_list entL EntW Try.underlying35 (by kernel_rfl) (fun fu cs x h hl => open_ent w fu cs x h hl) f8
    obtain ⟨v, bs, r9, hb⟩ := open_bytesAt f9
    simp at r0 r1 r2 r3 r4 r5 r6 r7 r8 r9
    subst r0 r1 r2 r3 r4 r5 r6 r7 r8 r9
    exact ⟨⟨n0, n1, n2, n3, n4, n5, n6, b7, l8, bs⟩, ⟨_, _, rfl, h8, hb⟩, ⟨w0, w1, w2, w3, w4, w5, w6, g8'⟩⟩
end

end Go.Proofs.Ytpppoajnbhipeaa

/- A script's calls, opened. -/
namespace Go.Proofs.Ytpppoajnbhipeaa
open Go Go.RowKit

section
open Go Go.RowKit Go.WideShapes Go.ChangeShapes Go.Deep
structure OpD where
  kind : Int
  num : Int
  m : MsgD
  data : List UInt8
structure OpW (o : OpD) : Prop where
  kind : IntW o.kind
  num : IntW o.num
  m : MsgW o.m

def opL : Lay OpD where
  size := 13
  pos := by decide
  at_ w P cs o := ∃ ev dv bv, cs = [.int .i64 o.kind, .int .i64 o.num, .int .i64 o.m.kind, .int .i64 o.m.frm, .int .i64 o.m.to, .int .i64 o.m.term, .int .i64 o.m.a, .int .i64 o.m.b, .int .i64 o.m.c, .bool o.m.ok, ev, dv, bv] ∧ ListAt entL w P ev o.m.entries ∧ BytesAt w P dv o.m.data ∧ BytesAt w P bv o.data
  len := fun ⟨ev, dv, bv, e, _⟩ => by rw [e]; rfl
  one := fun ⟨ev, dv, bv, e, h1, h2, h3⟩ u hu => by
    rw [e] at hu
    obtain ⟨a, c, rfl⟩ := h1.form
    obtain ⟨a2, c2, rfl⟩ := h2.form
    obtain ⟨a3, c3, rfl⟩ := h3.form
    simp at hu
    rcases hu with rfl | rfl | rfl | rfl | rfl | rfl | rfl | rfl | rfl | rfl | rfl | rfl | rfl <;> rfl
  keep := fun ⟨ev, dv, bv, e, h1, h2, h3⟩ k hP => ⟨ev, dv, bv, e, h1.keep k hP, h2.keep k hP, h3.keep k hP⟩
  mono := fun ⟨ev, dv, bv, e, h1, h2, h3⟩ hP => ⟨ev, dv, bv, e, h1.mono hP, h2.mono hP, h3.mono hP⟩

section
variable {H : Type} {enc : TypeId × Value → H}
set_option maxRecDepth 100000 in
theorem open_op (w : World) (fuel : Nat) (cs : List Value) (x : DataW H × List MemPlace) (h : DataW.trod enc Try.prog w 0 (fun _ => true) true fuel 75 cs = some x) (_hl : cs.length = 13) : ∃ o, opL.at_ w (fun b => b < w.heap.size) cs o ∧ OpW o := by
  obtain ⟨xs, n, rfl, _, hl, hxs, hf⟩ := DataW.trod_struct Try.underlying75 h
  have e13 : Try.prog.cellsOf 75 = 13 := by kernel_rfl
  have e10 : Try.prog.cellsOf 40 = 10 := by kernel_rfl
  have eI : Try.prog.cellsOf 3 = 1 := by kernel_rfl
  have eB : Try.prog.cellsOf 38 = 1 := by kernel_rfl
  rw [e13] at hl
  have hx : ∀ i, i < 4 → ∃ y, xs[i]? = some y := fun i hi => ⟨xs[i]'(by rw [hxs]; exact hi), List.getElem?_eq_getElem _⟩
  match cs, hl with
  | [v0, v1, v2, v3, v4, v5, v6, v7, v8, v9, v10, v11, v12], _ =>
    obtain ⟨y0, g0⟩ := hx 0 (by omega)
    obtain ⟨y1, g1⟩ := hx 1 (by omega)
    obtain ⟨y2, g2⟩ := hx 2 (by omega)
    obtain ⟨y3, g3⟩ := hx 3 (by omega)
    have f0 : DataW.trod enc Try.prog w 0 (fun _ => true) true n 3 [v0] = some y0 := by simpa [eI, g0] using hf 0 ⟨ "Kind", 3, 0, false, "", "", 0⟩ rfl
    have f1 : DataW.trod enc Try.prog w 0 (fun _ => true) true n 3 [v1] = some y1 := by simpa [eI, g1] using hf 1 ⟨ "N", 3, 1, false, "", "", 8⟩ rfl
    have f2 : DataW.trod enc Try.prog w 0 (fun _ => true) true n 40 [v2, v3, v4, v5, v6, v7, v8, v9, v10, v11] = some y2 := by simpa [e10, g2] using hf 2 ⟨ "M", 40, 2, false, "", "", 16⟩ rfl
    have f3 : DataW.trod enc Try.prog w 0 (fun _ => true) true n 38 [v12] = some y3 := by simpa [eB, g3] using hf 3 ⟨ "Data", 38, 12, false, "", "", 128⟩ rfl
    obtain ⟨n0, r0, w0⟩ := open_num Try.underlying3 f0
    obtain ⟨n1, r1, w1⟩ := open_num Try.underlying3 f1
    obtain ⟨m, ⟨ev, dv, rm, h1, h2⟩, hm⟩ := open_msg w n _ y2 f2 rfl
    obtain ⟨v, bs, r3, hb⟩ := open_bytesAt f3
    simp at r0 r1 rm r3
    obtain ⟨rfl, rfl, rfl, rfl, rfl, rfl, rfl, rfl, rfl, rfl⟩ := rm
    subst r0 r1 r3
    exact ⟨⟨n0, n1, m, bs⟩, ⟨_, _, _, rfl, h1, h2, hb⟩, ⟨w0, w1, hm⟩⟩
end
end

theorem take_one_at {α : Type} {l : List α} {j : Nat} {e : α} (h : l[j]? = some e) : (l.drop j).take 1 = [e] := by
  have hj := List.getElem?_eq_some_iff.1 h
  rw [List.drop_eq_getElem_cons hj.1, hj.2]
  rfl
theorem blk13 {w : World} {b : Nat} {x0 x1 x2 x3 x4 x5 x6 x7 x8 x9 x10 x11 x12 : Value} {t : TypeId} (h : w.heap[b]? = some (.cells #[x0, x1, x2, x3, x4, x5, x6, x7, x8, x9, x10, x11, x12] t (0, 0))) :
    (w.cell? ⟨b, 0, none⟩ = some x0 ∧ w.cell? ⟨b, 1, none⟩ = some x1 ∧ w.cell? ⟨b, 2, none⟩ = some x2 ∧ w.cell? ⟨b, 3, none⟩ = some x3 ∧ w.cell? ⟨b, 4, none⟩ = some x4 ∧ w.cell? ⟨b, 5, none⟩ = some x5 ∧ w.cell? ⟨b, 6, none⟩ = some x6 ∧ w.cell? ⟨b, 7, none⟩ = some x7 ∧ w.cell? ⟨b, 8, none⟩ = some x8 ∧ w.cell? ⟨b, 9, none⟩ = some x9 ∧ w.cell? ⟨b, 10, none⟩ = some x10 ∧ w.cell? ⟨b, 11, none⟩ = some x11 ∧ w.cell? ⟨b, 12, none⟩ = some x12) := by
  refine ⟨?_, ?_, ?_, ?_, ?_, ?_, ?_, ?_, ?_, ?_, ?_, ?_, ?_⟩ <;> exact cell_of_block h _

end Go.Proofs.Ytpppoajnbhipeaa
