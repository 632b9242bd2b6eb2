/- Joined of RefJ, RefK. -/
import Derived.Test.YtpppoajnbhipeaaRefE
import Derived.Test.YtpppoajnbhipeaaRefF
import Derived.Test.YtpppoajnbhipeaaQ20
import Derived.Test.YtpppoajnbhipeaaCoreP
import Derived.Test.YtpppoajnbhipeaaQ19

/- The document's core: put. -/
namespace Go.Proofs.Ytpppoajnbhipeaa
open Go Go.RowKit

theorem turnD_id {c : CoreD} {i : Int} (h : ¬ (c.frm = 0 ∨ i < c.frm)) : turnD c i = c := by unfold turnD; rw [if_neg h]
/-- Entries put one by one: all at once. -/
theorem fold_turn : ∀ (r : List Ent) (e : Ent) (c : CoreD), 0 ≤ c.frm → 0 ≤ lastD c → (e :: r).foldl putD c = turnD { c with l := c.l ++ (e :: r) } (lastD c + 1)
  | [], e, c, _, _ => rfl
  | e2 :: r, e, c, h, hl => by
    have hf : 0 ≤ (putD c e).frm := by
      show 0 ≤ (if c.frm = 0 ∨ lastD c + 1 < c.frm then lastD c + 1 else c.frm)
      split <;> omega
    have hp : 0 < (putD c e).frm ∧ (putD c e).frm ≤ lastD c + 1 := by
      show 0 < (if c.frm = 0 ∨ lastD c + 1 < c.frm then lastD c + 1 else c.frm) ∧ (if c.frm = 0 ∨ lastD c + 1 < c.frm then lastD c + 1 else c.frm) ≤ lastD c + 1
      split <;> omega
    have hls : lastD (putD c e) = lastD c + 1 := by
      show c.base + ((c.l ++ [e]).length : Int) = c.base + (c.l.length : Int) + 1
      simp
      omega
    have := fold_turn r e2 (putD c e) hf (by omega)
    show (e2 :: r).foldl putD (putD c e) = _
    rw [this, hls]
    have e1 : turnD { putD c e with l := (putD c e).l ++ (e2 :: r) } (lastD c + 1 + 1) = { putD c e with l := (putD c e).l ++ (e2 :: r) } := turnD_id (by show ¬ ((putD c e).frm = 0 ∨ _ < (putD c e).frm); omega)
    rw [e1]
    show ({ putD c e with l := (c.l ++ [e]) ++ (e2 :: r) } : CoreD) = _
    rw [List.append_assoc]
    rfl

/-- How put ends. -/
def RPutPost (B n : Nat) (P : Nat → Prop) (c : CoreD) (lv sv : Value) (r : Option CoreD) (w : World) (e : Ending) (w' : World) : Prop :=
  match r with
  | none => e = .returned (.bool false) ∧ RefAt w' B n c P lv sv ∧ Keeps [] w w'
  | some c' => e = .returned (.bool true) ∧ (∃ lv', RefAt w' B n c' (Gr P w w') lv' sv) ∧ Keeps [n] w w'

set_option maxRecDepth 100000 in
set_option maxHeartbeats 6400000 in
theorem rput_any (w : World) (B n : Nat) (c : CoreD) (P : Nat → Prop) (lv sv : Value) (prev : Int) (l : List Ent) (ea : Option Addr) (ec : Nat) (h : RefAt w B n c P lv sv) (hP : ∀ b, P b → b < w.heap.size) (hl : ListAt entL w P (.slice ea l.length ec) l)
    (h1 : c.base ≤ prev) (h2 : prev ≤ lastD c) (hn : l.length ≤ 8) (ht : ∀ e ∈ l, 0 ≤ e.term ∧ e.term ≤ 1099511627776) (hd : ∀ e ∈ l, e.data.length ≤ 1000000) (hll : lastD c + 8 ≤ 2199023255552) :
    Calls Try.prog 92 #[.pointer (some ⟨n, 0, none⟩), .int .i64 prev, .slice ea l.length ec] w (RPutPost B n P c lv sv (putsD c prev l) w) := by
  obtain ⟨it, hi0, hz0, hz1, hz2⟩ := info_parts Try.infoEnt
  obtain ⟨la, lc, hlv⟩ := h.form
  have h14 : w.cell? ⟨n, 14, none⟩ = some (.int .i64 c.commit) := h.blk.cell 14
  have h15 : w.cell? ⟨n, 15, none⟩ = some (.int .i64 c.base) := h.blk.cell 15
  have h18 : w.cell? ⟨n, 18, none⟩ = some (.slice la c.l.length lc) := (h.blk.cell 18).trans (by rw [hlv]; rfl)
  have f18 : w.frozen? ⟨n, 18, none⟩ = false := h.blk.free 18
  have hlt := h.blk.lt
  have hb := h.ok.base
  have hlen5 := h.ok.len
  have hlast := h.ok.last
  have hcm := h.ok.commit
  have H := hid h
  have HLA := hid hl
  have HPB := hid hP
  have HTE := hid ht
  have HDE := hid hd
  have HLV := hid hlv
  have HZ : Hid (∀ k, k < l.length → ∃ e, l[k]? = some e) := fun k hk => ⟨l[k], List.getElem?_eq_getElem hk⟩
  have HLD : Hid (lastD c = c.base + c.l.length) := rfl
  have h2' : prev ≤ c.base + c.l.length := h2
  have hll' : c.base + (c.l.length : Int) + 8 ≤ 2199023255552 := hll
  clear h hl hP ht hd hlv h2 hll
  go_enter Try.func92, Try.ntmps92
  go_wp2_with fail
  go_loopw [7] (fun i wr => ∃ k : Nat, k ≤ l.length ∧ i = .int .i64 k ∧ Hid (Keeps [] w wr ∧ putsD c prev l = putsD c (prev + k) (l.drop k)) ∧ prev + k ≤ c.base + c.l.length) (fun i _ => l.length - (intOf i).toNat)
  case atStart => exact ⟨0, Nat.zero_le _, rfl, ⟨by exact Keeps.K, by simp⟩, by omega⟩
  case round =>
    obtain ⟨k, hk, rfl, HW, hpk⟩ := hrel
    have i0 : (0 : Int) ≤ (k : Int) := Int.natCast_nonneg _
    have x14 := HW.out.1.cellSome h14 (by simp)
    have x15 := HW.out.1.cellSome h15 (by simp)
    have x18 := HW.out.1.cellSome h18 (by simp)
    have hnr : n < wr.heap.size := Nat.lt_of_lt_of_le hlt HW.out.1.size
    by_cases hlt' : k < l.length
    · have i1 : (k : Int) < (l.length : Int) := by omega
      obtain ⟨e, he⟩ := HZ.out k hlt'
      obtain ⟨g, off, cg, ha, hcg, hcm2, hgl, hgP⟩ := (HLA.out.k HW.out.1).addr (fun hn => by rw [hn] at hlt'; simp at hlt')
      simp at ha
      obtain ⟨ha, hcc⟩ := ha
      subst ha
      subst hcc
      obtain ⟨cs, ⟨v, rfl, hbv⟩, hcs⟩ := (HLA.out.k HW.out.1).get he
      have y0 : wr.cell? ⟨g, off + k * 3, none⟩ = some (.int .i64 e.term) := hcs 0 _ rfl
      have HE := hid he
      have HDR : Hid (l.drop k = e :: l.drop (k + 1)) := drop_cons he
      obtain ⟨T, okT, hT⟩ : ∃ t o, atD c (prev + 1 + k) = (t, o) := ⟨_, _, rfl⟩
      have HT := hid hT
      have HA : Hid (atD c (prev + k + 1) = (T, okT)) := by show _ = _; rw [show prev + (k : Int) + 1 = prev + 1 + k by omega]; exact hT
      have ib1 : -4611686018427387904 ≤ prev + 1 + (k : Int) := by omega
      have ib2 : prev + 1 + (k : Int) ≤ 4611686018427387904 := by omega
      have wr1 : IntKind.i64.wrap (prev + 1) = prev + 1 := IntWalk.i64_in _ (by omega)
      have wr2 : IntKind.i64.wrap (prev + 1 + (k : Int)) = prev + 1 + (k : Int) := IntWalk.i64_in _ (by omega)
      clear hcs hbv he hT
      by_cases hmt : okT = true ∧ T = e.term
      · obtain ⟨rfl, rfl⟩ := hmt
        have HNX : Hid (putsD c prev l = putsD c (prev + ((k + 1 : Nat) : Int)) (l.drop (k + 1)) ∧ prev + ((k + 1 : Nat) : Int) ≤ c.base + c.l.length) := by
          constructor
          · rw [HW.out.2, HDR.out, puts_match (by rw [HA.out]; exact ⟨rfl, rfl⟩)]
            congr 1
            omega
          · have hA := HA.out
            unfold atD at hA
            split at hA
            · have := HLD.out; omega
            · split at hA
              · simp at hA
              · rw [HLD.out] at *
                omega
        go_wp2_with fail
        refine (rAt_is _ B n c P lv sv (H.out.k HW.out.1) (prev + 1 + (k : Int)) e.term true ib1 ib2 HT.out).mono ?_
        rintro x w' ⟨rfl, kk, rfl⟩
        go_wp2_with fail
        go_roundw
        case rel => exact ⟨k + 1, by omega, by go_num, ⟨by exact HW.out.1.drewN kk, HNX.out.1⟩, HNX.out.2⟩
        case measure => simp [intOf]; omega
      · have HMT : Hid (¬ ((atD c (prev + k + 1)).2 = true ∧ (atD c (prev + k + 1)).1 = e.term)) := by show ¬ _; rw [HA.out]; exact hmt
        have hdrl : Hid ((l.drop (k + 1)).length = l.length - (k + 1)) := by show _ = _; simp
        have wr3 : IntKind.i64.wrap (prev + 1 + (k : Int) - 1) = prev + 1 + (k : Int) - 1 := IntWalk.i64_in _ (by omega)
        have wr4 : IntKind.i64.wrap (prev + 1 + (k : Int) - 1 - c.base) = prev + 1 + (k : Int) - 1 - c.base := IntWalk.i64_in _ (by omega)
        have wr5 : IntKind.i64.wrap (prev + 1 + (k : Int) - 1 - c.base + (l.length : Int)) = prev + 1 + (k : Int) - 1 - c.base + (l.length : Int) := IntWalk.i64_in _ (by omega)
        have wr6 : IntKind.i64.wrap (prev + 1 + (k : Int) - 1 - c.base + (l.length : Int) - (k : Int)) = prev + 1 + (k : Int) - 1 - c.base + (l.length : Int) - (k : Int) := IntWalk.i64_in _ (by omega)
        have hmm : okT = false ∨ (okT = true ∧ (T == e.term) = false) := by
          cases okT
          · exact .inl rfl
          · refine .inr ⟨rfl, ?_⟩
            simpa using hmt
        clear hmt
        by_cases hno : prev + k + 1 ≤ c.commit ∨ 5096 < prev + k - c.base + (((l.drop (k + 1)).length : Int) + 1)
        · have HF : Hid (putsD c prev l = none) := by
            show _ = _
            rw [HW.out.2, HDR.out, puts_none HMT.out hno]
          rw [hdrl.out] at hno
          have hc : decide (prev + 1 + (k : Int) ≤ c.commit) = true ∨ (decide (prev + 1 + (k : Int) ≤ c.commit) = false ∧ decide (5096 < prev + 1 + (k : Int) - 1 - c.base + (l.length : Int) - (k : Int)) = true) := by
            by_cases h : prev + 1 + (k : Int) ≤ c.commit
            · exact .inl (by simpa using h)
            · exact .inr ⟨by simpa using h, by simp; omega⟩
          clear hno
          rcases hmm with rfl | ⟨rfl, hne⟩
          all_goals
            rcases hc with hc1 | ⟨hc1, hc2⟩
            all_goals
              go_wp2_with fail
              first
                | (refine (rAt_is _ B n c P lv sv (H.out.k HW.out.1) (prev + 1 + (k : Int)) T false ib1 ib2 HT.out).mono ?_)
                | (refine (rAt_is _ B n c P lv sv (H.out.k HW.out.1) (prev + 1 + (k : Int)) T true ib1 ib2 HT.out).mono ?_)
              rintro x w' ⟨rfl, kk, rfl⟩
              go_wp2_with fail
              go_ret
              rw [HF.out]
              exact ⟨rfl, H.out.k (HW.out.1.trans (by exact Keeps.K) (fun _ _ h => h)), HW.out.1.trans (by exact Keeps.K) (fun _ _ h => h)⟩
        · obtain ⟨d, hdd⟩ : ∃ d : Nat, (d : Int) = prev + k - c.base := ⟨(prev + k - c.base).toNat, by omega⟩
          have hdl : d ≤ c.l.length := by omega
          have hb1 : ¬ prev + k + 1 ≤ c.commit := fun h => hno (.inl h)
          have hb2 : prev + k - c.base + ((l.length : Int) - k) ≤ 5096 := by
            have : ¬ 5096 < prev + k - c.base + (((l.drop (k + 1)).length : Int) + 1) := fun h => hno (.inr h)
            rw [hdrl.out] at this
            omega
          have HF : Hid (putsD c prev l = some (turnD { c with l := c.l.take d ++ l.drop k } (prev + 1 + k))) := by
            show _ = _
            have hl1 : lastD { c with l := c.l.take d } = c.base + d := by show c.base + ((c.l.take d).length : Int) = _; rw [List.length_take]; omega
            have hft := fold_turn (l.drop (k + 1)) e { c with l := c.l.take d } H.out.ok.frm.1 (by rw [hl1]; omega)
            rw [hl1, show c.base + (d : Int) + 1 = prev + 1 + k by omega] at hft
            rw [HW.out.2, HDR.out, puts_some HMT.out hno, show (prev + (k : Int) - c.base).toNat = d by omega, hft]
          have hlen : (c.l.take d ++ l.drop k).length = d + (l.length - k) := by rw [List.length_append, List.length_take, List.length_drop]; omega
          have HOK : Hid (CoreOk { c with l := c.l.take d ++ l.drop k }) :=
            { may := H.out.ok.may, id := H.out.ok.id, term := H.out.ok.term, base := H.out.ok.base, baseTerm := H.out.ok.baseTerm, len := by show (c.l.take d ++ l.drop k).length ≤ 5096; omega, last := by show c.base + ((c.l.take d ++ l.drop k).length : Int) ≤ _; omega, commit := by show c.commit ≤ c.base + ((c.l.take d ++ l.drop k).length : Int); omega, draw := H.out.ok.draw, votes := H.out.ok.votes, next := H.out.ok.next, matc := H.out.ok.matc, nexts := H.out.ok.nexts, matcs := H.out.ok.matcs,
              ents := fun x hx => by
                rcases List.mem_append.1 hx with hx | hx
                · exact H.out.ok.ents x (List.mem_of_mem_take hx)
                · exact HTE.out x (List.mem_of_mem_drop hx)
              frm := H.out.ok.frm
              data := fun x hx => by
                rcases List.mem_append.1 hx with hx | hx
                · exact H.out.ok.data x (List.mem_of_mem_take hx)
                · exact HDE.out x (List.mem_of_mem_drop hx)
              snap := H.out.ok.snap }
          have HTD : Hid ((c.l.take d).length = d) := by show _ = _; rw [List.length_take]; omega
          have HDL : Hid ((l.drop k).length = l.length - k) := by show _ = _; simp
          have HPL : Hid (ListAt entL wr P (.slice (some ⟨g, off + k * 3, none⟩) (l.length - k) (ec - k)) (l.drop k)) := by
            have h3 := HLA.out.k HW.out.1
            have := h3.piece k (l.length - k) (ec - k) (some ⟨g, off + k * 3, none⟩) (by omega) (by omega) (by omega) (fun _ => rfl)
            rwa [List.take_of_length_le (by simp)] at this
          have wr7 : IntKind.i64.wrap (prev + 1 + (k : Int) - c.base) = prev + 1 + (k : Int) - c.base := IntWalk.i64_in _ (by omega)
          have wr8 : IntKind.i64.wrap (prev + 1 + (k : Int) - c.base - 1) = (d : Int) := by rw [IntWalk.i64_in _ (by omega)]; omega
          have d0 : (0 : Int) ≤ (d : Int) := Int.natCast_nonneg _
          have hc1 : decide (prev + 1 + (k : Int) ≤ c.commit) = false := by simp; omega
          have hc2 : decide (5096 < prev + 1 + (k : Int) - 1 - c.base + (l.length : Int) - (k : Int)) = false := by simp; omega
          have i2 : (k : Int) ≤ (l.length : Int) := by omega
          have i3 : (k : Int) ≤ (ec : Int) := by omega
          have i4 : (ec : Int) ≤ 9223372036854775807 := by unfold maxLen at hcm2; omega
          have i5 : ¬ ec = k := by omega
          have i6 : k ≤ ec := by omega
          have i7 : k ≤ l.length := by omega
          have hb3 : 0 ≤ prev + 1 + (k : Int) ∧ prev + 1 + (k : Int) ≤ 2199023255553 := by omega
          have hnb : d + (l.length - k) ≤ 5096 := by omega
          have HB3 := hid hb3
          have HDD := hid hdd
          clear hno hb1 hb2 hlen hb3 hdd
          have hcase : (c.l.length = 0 ∧ d = 0) ∨ (∃ gl ol, la = some ⟨gl, ol, none⟩ ∧ c.l.length ≤ lc ∧ lc ≤ maxLen) := by
            by_cases hz : c.l = []
            · left
              rw [hz] at hdl ⊢
              simp at hdl ⊢
              exact hdl
            · right
              have h3 := H.out.log
              rw [HLV.out] at h3
              obtain ⟨gl, ol, lc', h4, h5, h6, _, _⟩ := h3.addr hz
              simp at h4
              obtain ⟨h4, rfl⟩ := h4
              exact ⟨gl, ol, h4, h5, h6⟩
          rcases hcase with hz0 | hz0
          · obtain ⟨hz, rfl⟩ := hz0
            have HPC : Hid (ListAt entL w P (.slice la 0 lc) (c.l.take 0)) := by rw [List.take_zero]; exact ListAt.nil _ _ _ _
            rcases hmm with rfl | ⟨rfl, hne⟩
            all_goals
              go_wp2_with fail
              first
                | (refine (rAt_is _ B n c P lv sv (H.out.k HW.out.1) (prev + 1 + (k : Int)) T false ib1 ib2 HT.out).mono ?_)
                | (refine (rAt_is _ B n c P lv sv (H.out.k HW.out.1) (prev + 1 + (k : Int)) T true ib1 ib2 HT.out).mono ?_)
              rintro x w' ⟨rfl, kk, rfl⟩
              go_wp2_with fail
              refine Plan.wp_region_plan (fun wx => wx.cell? ⟨n, 18, none⟩ = some (.slice la c.l.length lc) ∧ wx.cell? ⟨n, 15, none⟩ = some (.int .i64 c.base)) 13 [(true, 0), (true, 1), (true, 2), (true, 3), (true, 4), (true, 5), (true, 6), (true, 7), (true, 8), (true, 9), (true, 10), (true, 11), (true, 12)] (by kernel_rfl) (by as_aux_lemma => kernel_rfl) (by kernel_rfl) (fun _ _ _ _ _ h => h) ?_ (fun hS => ?_)
              (· go_simp)
              simp only [Plan.pick, List.append_eq, List.cons_append, List.nil_append, Plan.g1, Plan.g2, Option.getD_some, List.drop_succ_cons, List.drop_zero]
              iterate 12 (first | refine Plan.tA ?_ | refine Plan.tY ?_ | refine Plan.pN ?_ | refine Plan.pU ?_ | fail)
              refine Plan.take (v := .slice la 0 lc) (a' := ?_) (Plan.want_all (by rfl)) ?_ ?_ ?_
              rotate_left 1
              (· intro w' hS'
                 (try dsimp only at hS')
                 rcases la with _ | ⟨gl, ol, fl⟩ <;> go_simp)
              (· simp only [Act.put, List.setIfInBounds_toArray, List.set_cons_zero, List.set_cons_succ]
                 try with_reducible rfl)
              refine Plan.fin ?_
              refine wpl_fold (fun wx => Keeps [] wr wx) (by exact Keeps.K) ?_
              intro w5 hk5
              have K5 : Hid (Keeps [] w w5) := HW.out.1.trans hk5 (fun _ _ h => h)
              obtain ⟨css, hel, hrd, _⟩ := HPC.out.k K5.out
              rw [HTD.out] at hrd
              obtain ⟨css2, hel2, hrd2, _⟩ := HPL.out.k hk5
              rw [HDL.out] at hrd2
              have HEL := hid hel
              have HRD := hid hrd
              have HEL2 := hid hel2
              have HRD2 := hid hrd2
              have u18 := hk5.cellSome x18 (by simp)
              have uf18 : w5.frozen? ⟨n, 18, none⟩ = false := (H.out.k K5.out).blk.free 18
              have hn5 : n < w5.heap.size := Nat.lt_of_lt_of_le hnr hk5.size
              have HPB5 : Hid (∀ b, P b → b < w5.heap.size) := fun b hb => Nat.lt_of_lt_of_le (HPB.out b hb) K5.out.size
              clear hel hrd hel2 hrd2 hk5 x14 x15 x18 y0
              go_wp2_with (first | (show wpList _ _ _ (⟨some 72, _, _, _, _, _⟩ :: _) _ _; go_must (refine wpList_append_off (L := entL) (PB := P) _ (by rfl) _ _ _ (by rfl) w5.heap.size 59 it _ 40 Try.underlying35 hi0 hz0 hz1 hz2 rfl (R := fun b => P b ∨ w5.heap.size ≤ b) (.slice none 0 0) (by rfl) [] (c.l.take 0) 0 rfl css (OwnAt.nil _ _ _ _) (.slice la 0 lc) (by rfl) 0 HTD.out HEL.out HRD.out (by omega) (le_maxLen (by omega)) (by exact Nat.le_refl _) (fun b _ hb => ⟨.inl hb, fun h => by simp [mem_ownB, Value.ownBlock] at h⟩) ?_; intro a6 q6 w6 ho6 hk6 hv6; rw [Nat.zero_add] at ho6 hv6 ⊢; have K6 : Hid (Keeps [] w5 w6) := hk6.out.mono (G := []) (fun b _ hb => by simp [mem_ownB, Value.ownBlock] at hb); have u186 := K6.out.cellSome u18 (by simp); have uf186 : w6.frozen? ⟨n, 18, none⟩ = false := (K6.out.frozen (a := ⟨n, 18, none⟩) hn5 (by simp)).trans uf18; have hn6 : n < w6.heap.size := Nat.lt_of_lt_of_le hn5 K6.out.size)) | (show wpList _ _ _ (⟨some 78, _, _, _, _, _⟩ :: _) _ _; go_must (refine wpList_append_off (L := entL) (PB := P) _ (by rfl) _ _ _ (by rfl) w5.heap.size 59 it _ 40 Try.underlying35 hi0 hz0 hz1 hz2 rfl (R := fun b => P b ∨ w5.heap.size ≤ b) (.slice a6 0 q6) (by rfl) (c.l.take 0) (l.drop k) 0 HTD.out css2 ho6.out (.slice (some ⟨g, off + k * 3, none⟩) (l.length - k) (ec - k)) (by rfl) (l.length - k) HDL.out (HEL2.out.keep K6.out (fun _ _ h => by cases h)) (HRD2.out.keeps K6.out (fun _ _ h => by cases h)) (by omega) (le_maxLen (by omega)) (K6.out.size) (fun b _ hb => ⟨.inl hb, fun h => by have h1 := (OwnAt.ge ho6.out b h).1; have h2 := HPB5.out b hb; omega⟩) ?_; intro a7 q7 w7 ho7 hk7 hv7; rw [Nat.zero_add] at ho7 hv7 ⊢; have K7 : Hid (Keeps [] w w7) := (K5.out.trans K6.out (fun _ _ h => h)).trans hk7.out (fun b hb hb' => by have h1 := (OwnAt.ge ho6.out b hb').1; have h2 := K5.out.size; omega); have u187 := K7.out.cellSome h18 (by simp); have uf187 : w7.frozen? ⟨n, 18, none⟩ = false := (H.out.k K7.out).blk.free 18; have hn7 : n < w7.heap.size := Nat.lt_of_lt_of_le hlt K7.out.size)))
              have HX : Hid (∃ w8, w8 = w7.setCell ⟨n, 18, none⟩ (.slice a7 (l.length - k) q7) ∧ RefAt w8 B n { c with l := c.l.take 0 ++ l.drop k } (Gr P w w8) (.slice a7 (l.length - k) q7) sv ∧ Keeps [n] w w8) := by
                obtain ⟨r1, k1⟩ := H.out.relog (l' := c.l.take 0 ++ l.drop k) (lv' := .slice a7 (l.length - k) q7) (R := fun b => P b ∨ w5.heap.size ≤ b) K7.out (fun _ h => .inl h) (fun hb => by
                  rcases hb with hb | hb
                  · exact H.out.apart hb
                  · omega) (OwnAt.list ho7.out (fun _ _ h => h.1) (fun b hb => .inr (OwnAt.ge ho7.out b hb).1)) HOK.out
                refine ⟨_, rfl, r1.mono (fun b h1 h2 => ?_) (fun hb => ?_), k1⟩
                · rcases h2 with h2 | h2
                  · exact .inl h2
                  · exact .inr ⟨Nat.le_trans K5.out.size h2, h1⟩
                · rcases hb with hb | hb
                  · exact H.out.apart hb
                  · omega
              obtain ⟨w8, hw8, hc8, hk8⟩ := HX.out
              rw [← hw8]
              have C8 := hid hc8
              have K8 := hid hk8
              clear hw8 hc8 hk8 HX u187 uf187
              refine (rturned_any _ B n _ _ _ sv (prev + 1 + (k : Int)) C8.out HB3.out).mono ?_
              rintro x w9 ⟨rfl, hc9, hk9⟩
              have C9 : Hid (RefAt w9 B n (turnD { c with l := c.l.take 0 ++ l.drop k } (prev + 1 + k)) (Gr P w w9) (.slice a7 (l.length - k) q7) sv) := hc9.mono (fun b _ hb => Gr.old hk9.size hb) (fun hb => by
                rcases hb with hb | hb
                · exact H.out.apart hb
                · omega)
              have K9 : Hid (Keeps [n] w w9) := K8.out.trans hk9 (fun _ _ h => h)
              clear hc9 hk9
              go_wp2_with fail
              go_ret
              rw [HF.out]
              exact ⟨rfl, ⟨_, C9.out⟩, K9.out⟩
          · obtain ⟨gl, ol, rfl, hy1, hy2⟩ := hz0
            have HPC : Hid (ListAt entL w P (.slice (some ⟨gl, ol, none⟩) d lc) (c.l.take d)) := by
              have h3 := H.out.log
              rw [HLV.out] at h3
              have := h3.piece 0 d lc (some ⟨gl, ol, none⟩) (by omega) (by omega) hy2 (fun _ => by simp)
              rwa [List.drop_zero] at this
            have hd1 : (d : Int) ≤ (lc : Int) := by omega
            have hd2 : (lc : Int) ≤ 9223372036854775807 := by unfold maxLen at hy2; omega
            rcases hmm with rfl | ⟨rfl, hne⟩
            all_goals
              go_wp2_with fail
              first
                | (refine (rAt_is _ B n c P lv sv (H.out.k HW.out.1) (prev + 1 + (k : Int)) T false ib1 ib2 HT.out).mono ?_)
                | (refine (rAt_is _ B n c P lv sv (H.out.k HW.out.1) (prev + 1 + (k : Int)) T true ib1 ib2 HT.out).mono ?_)
              rintro x w' ⟨rfl, kk, rfl⟩
              go_wp2_with fail
              refine Plan.wp_region_plan (fun wx => wx.cell? ⟨n, 18, none⟩ = some (.slice (some ⟨gl, ol, none⟩) c.l.length lc) ∧ wx.cell? ⟨n, 15, none⟩ = some (.int .i64 c.base)) 13 [(true, 0), (true, 1), (true, 2), (true, 3), (true, 4), (true, 5), (true, 6), (true, 7), (true, 8), (true, 9), (true, 10), (true, 11), (true, 12)] (by kernel_rfl) (by as_aux_lemma => kernel_rfl) (by kernel_rfl) (fun _ _ _ _ _ h => h) ?_ (fun hS => ?_)
              (· go_simp)
              simp only [Plan.pick, List.append_eq, List.cons_append, List.nil_append, Plan.g1, Plan.g2, Option.getD_some, List.drop_succ_cons, List.drop_zero]
              iterate 12 (first | refine Plan.tA ?_ | refine Plan.tY ?_ | refine Plan.pN ?_ | refine Plan.pU ?_ | fail)
              refine Plan.take (v := .slice (some ⟨gl, ol, none⟩) d lc) (a' := ?_) (Plan.want_all (by rfl)) ?_ ?_ ?_
              rotate_left 1
              (· intro w' hS'
                 (try dsimp only at hS')
                 go_simp)
              (· simp only [Act.put, List.setIfInBounds_toArray, List.set_cons_zero, List.set_cons_succ]
                 try with_reducible rfl)
              refine Plan.fin ?_
              refine wpl_fold (fun wx => Keeps [] wr wx) (by exact Keeps.K) ?_
              intro w5 hk5
              have K5 : Hid (Keeps [] w w5) := HW.out.1.trans hk5 (fun _ _ h => h)
              obtain ⟨css, hel, hrd, _⟩ := HPC.out.k K5.out
              rw [HTD.out] at hrd
              obtain ⟨css2, hel2, hrd2, _⟩ := HPL.out.k hk5
              rw [HDL.out] at hrd2
              have HEL := hid hel
              have HRD := hid hrd
              have HEL2 := hid hel2
              have HRD2 := hid hrd2
              have u18 := hk5.cellSome x18 (by simp)
              have uf18 : w5.frozen? ⟨n, 18, none⟩ = false := (H.out.k K5.out).blk.free 18
              have hn5 : n < w5.heap.size := Nat.lt_of_lt_of_le hnr hk5.size
              have HPB5 : Hid (∀ b, P b → b < w5.heap.size) := fun b hb => Nat.lt_of_lt_of_le (HPB.out b hb) K5.out.size
              clear hel hrd hel2 hrd2 hk5 x14 x15 x18 y0
              go_wp2_with (first | (show wpList _ _ _ (⟨some 72, _, _, _, _, _⟩ :: _) _ _; go_must (refine wpList_append_off (L := entL) (PB := P) _ (by rfl) _ _ _ (by rfl) w5.heap.size 59 it _ 40 Try.underlying35 hi0 hz0 hz1 hz2 rfl (R := fun b => P b ∨ w5.heap.size ≤ b) (.slice none 0 0) (by rfl) [] (c.l.take d) 0 rfl css (OwnAt.nil _ _ _ _) (.slice (some ⟨gl, ol, none⟩) d lc) (by rfl) d HTD.out HEL.out HRD.out (by omega) (le_maxLen (by omega)) (by exact Nat.le_refl _) (fun b _ hb => ⟨.inl hb, fun h => by simp [mem_ownB, Value.ownBlock] at h⟩) ?_; intro a6 q6 w6 ho6 hk6 hv6; rw [Nat.zero_add] at ho6 hv6 ⊢; have K6 : Hid (Keeps [] w5 w6) := hk6.out.mono (G := []) (fun b _ hb => by simp [mem_ownB, Value.ownBlock] at hb); have u186 := K6.out.cellSome u18 (by simp); have uf186 : w6.frozen? ⟨n, 18, none⟩ = false := (K6.out.frozen (a := ⟨n, 18, none⟩) hn5 (by simp)).trans uf18; have hn6 : n < w6.heap.size := Nat.lt_of_lt_of_le hn5 K6.out.size)) | (show wpList _ _ _ (⟨some 78, _, _, _, _, _⟩ :: _) _ _; go_must (refine wpList_append_off (L := entL) (PB := P) _ (by rfl) _ _ _ (by rfl) w5.heap.size 59 it _ 40 Try.underlying35 hi0 hz0 hz1 hz2 rfl (R := fun b => P b ∨ w5.heap.size ≤ b) (.slice a6 d q6) (by rfl) (c.l.take d) (l.drop k) d HTD.out css2 ho6.out (.slice (some ⟨g, off + k * 3, none⟩) (l.length - k) (ec - k)) (by rfl) (l.length - k) HDL.out (HEL2.out.keep K6.out (fun _ _ h => by cases h)) (HRD2.out.keeps K6.out (fun _ _ h => by cases h)) (by omega) (le_maxLen (by omega)) (K6.out.size) (fun b _ hb => ⟨.inl hb, fun h => by have h1 := (OwnAt.ge ho6.out b h).1; have h2 := HPB5.out b hb; omega⟩) ?_; intro a7 q7 w7 ho7 hk7 hv7; have K7 : Hid (Keeps [] w w7) := (K5.out.trans K6.out (fun _ _ h => h)).trans hk7.out (fun b hb hb' => by have h1 := (OwnAt.ge ho6.out b hb').1; have h2 := K5.out.size; omega); have u187 := K7.out.cellSome h18 (by simp); have uf187 : w7.frozen? ⟨n, 18, none⟩ = false := (H.out.k K7.out).blk.free 18; have hn7 : n < w7.heap.size := Nat.lt_of_lt_of_le hlt K7.out.size)))
              have HX : Hid (∃ w8, w8 = w7.setCell ⟨n, 18, none⟩ (.slice a7 (d + (l.length - k)) q7) ∧ RefAt w8 B n { c with l := c.l.take d ++ l.drop k } (Gr P w w8) (.slice a7 (d + (l.length - k)) q7) sv ∧ Keeps [n] w w8) := by
                obtain ⟨r1, k1⟩ := H.out.relog (l' := c.l.take d ++ l.drop k) (lv' := .slice a7 (d + (l.length - k)) q7) (R := fun b => P b ∨ w5.heap.size ≤ b) K7.out (fun _ h => .inl h) (fun hb => by
                  rcases hb with hb | hb
                  · exact H.out.apart hb
                  · omega) (OwnAt.list ho7.out (fun _ _ h => h.1) (fun b hb => .inr (OwnAt.ge ho7.out b hb).1)) HOK.out
                refine ⟨_, rfl, r1.mono (fun b h1 h2 => ?_) (fun hb => ?_), k1⟩
                · rcases h2 with h2 | h2
                  · exact .inl h2
                  · exact .inr ⟨Nat.le_trans K5.out.size h2, h1⟩
                · rcases hb with hb | hb
                  · exact H.out.apart hb
                  · omega
              obtain ⟨w8, hw8, hc8, hk8⟩ := HX.out
              rw [← hw8]
              have C8 := hid hc8
              have K8 := hid hk8
              clear hw8 hc8 hk8 HX u187 uf187
              refine (rturned_any _ B n _ _ _ sv (prev + 1 + (k : Int)) C8.out HB3.out).mono ?_
              rintro x w9 ⟨rfl, hc9, hk9⟩
              have C9 : Hid (RefAt w9 B n (turnD { c with l := c.l.take d ++ l.drop k } (prev + 1 + k)) (Gr P w w9) (.slice a7 (d + (l.length - k)) q7) sv) := hc9.mono (fun b _ hb => Gr.old hk9.size hb) (fun hb => by
                rcases hb with hb | hb
                · exact H.out.apart hb
                · omega)
              have K9 : Hid (Keeps [n] w w9) := K8.out.trans hk9 (fun _ _ h => h)
              clear hc9 hk9
              go_wp2_with fail
              go_ret
              rw [HF.out]
              exact ⟨rfl, ⟨_, C9.out⟩, K9.out⟩
    · have hkn : k = l.length := by omega
      have hge : (l.length : Int) ≤ (k : Int) := by omega
      have HF : Hid (putsD c prev l = some c) := by
        show _ = _
        rw [HW.out.2, hkn, List.drop_length]
        rfl
      clear hkn
      go_wp2_with fail
      go_ret
      rw [HF.out]
      exact ⟨rfl, ⟨lv, (H.out.k HW.out.1).toGr hlt⟩, HW.out.1.mono (fun _ _ h => by cases h)⟩

end Go.Proofs.Ytpppoajnbhipeaa

/- The document's core: take. -/
namespace Go.Proofs.Ytpppoajnbhipeaa
open Go Go.RowKit

/-- Entries that its base has passed are let go one by one. -/
theorem take_pass {c : CoreD} {m : MsgD} {j : Nat} (hj : j ≤ m.entries.length) (hm : j = 0 ∨ m.a + j ≤ c.base) (hA : c.base ≤ m.a + j) (hb : c.base ≤ c.commit) : appendD c m = appendAt c m (m.a + j) (m.entries.drop j) (decide (m.a < c.base)) := by
  unfold appendD
  by_cases h1 : c.base ≤ m.a
  · have hj0 : j = 0 := by omega
    subst hj0
    rw [if_pos h1, show decide (m.a < c.base) = false by simp; omega]
    simp
  · have hA2 : m.a + j = c.base := by omega
    rw [if_neg h1, show decide (m.a < c.base) = true by simp; omega, hA2]
    by_cases h2 : c.base - m.a < m.entries.length
    · rw [if_pos h2, show (c.base - m.a).toNat = j by omega]
    · rw [if_neg h2]
      have hjl : j = m.entries.length := by omega
      subst hjl
      unfold appendAt fitD
      have : (atD c c.base).2 = true := by unfold atD; rw [if_pos rfl]
      rw [this, List.drop_length]
      show _ = (({ c with commit := max c.commit (min m.c (c.base + ((0 : Nat) : Int))) } : CoreD), answerD c m true (c.base + ((0 : Nat) : Int)))
      rw [show c.base + ((0 : Nat) : Int) = c.base by omega, show max c.commit (min m.c c.base) = c.commit by omega]
theorem take_over {c : CoreD} {m : MsgD} (h : m.a + m.entries.length < c.base) : appendD c m = (c, answerD c m true c.base) := by
  unfold appendD
  rw [if_neg (by omega), if_neg (by omega)]
theorem followD_ok {c : CoreD} (h : CoreOk c) (m : MsgD) : CoreOk (followD c m) :=
  { may := h.may, id := h.id, term := h.term, base := h.base, baseTerm := h.baseTerm, len := h.len, last := h.last, commit := h.commit, draw := h.draw, votes := h.votes, next := h.next, matc := h.matc, nexts := h.nexts, matcs := h.matcs, ents := h.ents, frm := h.frm, data := h.data, snap := h.snap }

theorem putsD_some : ∀ (l : List Ent) (c : CoreD) (a : Int) (c' : CoreD), putsD c a l = some c' → c.base ≤ a → a ≤ lastD c → SameBut c c' ∧ a + l.length ≤ lastD c'
  | [], c, a, c', h, _, h2 => by
    cases h
    exact ⟨(fold_same [] c).1, by simpa using h2⟩
  | e :: r, c, a, c', h, h1, h2 => by
    by_cases hm : (atD c (a + 1)).2 = true ∧ (atD c (a + 1)).1 = e.term
    · rw [puts_match hm] at h
      have h3 : a + 1 ≤ lastD c := by
        have := hm.1
        unfold atD at this
        split at this
        · omega
        · split at this
          · simp at this
          · omega
      obtain ⟨h4, h5⟩ := putsD_some r c (a + 1) c' h (by omega) h3
      exact ⟨h4, by rw [List.length_cons]; omega⟩
    · by_cases hb : a + 1 ≤ c.commit ∨ 5096 < a - c.base + ((r.length : Int) + 1)
      · rw [puts_none hm hb] at h
        cases h
      · rw [puts_some hm hb] at h
        cases h
        obtain ⟨h6, h7⟩ := fold_same (e :: r) { c with l := c.l.take (a - c.base).toNat }
        refine ⟨?_, ?_⟩
        · exact ⟨h6.conf, h6.id, h6.term, h6.commit, h6.base, h6.ban⟩
        · unfold lastD at h2 ⊢
          rw [h7, h6.base, List.length_append, List.length_take]
          show a + ((e :: r).length : Int) ≤ c.base + _
          omega

theorem ranswer_is (w : World) (B n : Nat) (c : CoreD) (P : Nat → Prop) (lv sv : Value) (m : MsgD) (ok : Bool) (x a : Int) (hx : x = a) (h : RefAt w B n c P lv sv) :
    Calls Try.prog 90 #[.pointer (some ⟨n, 0, none⟩), .int .i64 m.frm, .bool ok, .int .i64 x] w (MsgsPost (answerD c m ok a) w) := by
  subst hx
  exact ranswer_any w B n c P lv sv m ok x h

set_option maxRecDepth 100000 in
set_option maxHeartbeats 6400000 in
theorem rtake_old (w : World) (B n : Nat) (c : CoreD) (P : Nat → Prop) (lv sv : Value) (m : MsgD) (ea da : Option Addr) (ec dc : Nat) (h : RefAt w B n c P lv sv) (ht : m.term < c.term) :
    Calls Try.prog 85 #[.pointer (some ⟨n, 0, none⟩), msgV m (.slice ea m.entries.length ec) (.slice da m.data.length dc)] w (RCallPost B n P (c, answerD c m false (lastD c)) w) := by
  have h10 : w.cell? ⟨n, 10, none⟩ = some (.int .i64 c.term) := h.blk.cell 10
  have hlt := h.blk.lt
  have H := hid h
  have hd : decide (m.term < c.term) = true := by simpa using ht
  obtain ⟨L, hL⟩ : ∃ L, lastD c = L := ⟨_, rfl⟩
  have HL := hid hL
  rw [hL]
  unfold msgV
  clear h hL
  go_enter Try.func85, Try.ntmps85
  go_wp2_with fail
  go_quiet (fail)
  go_wp2_with fail
  refine Plan.wp_region_plan (fun wx => wx.cell? ⟨w.heap.size, 1, none⟩ = some (.int .i64 m.frm)) 5 [(true, 0), (true, 1), (true, 2), (true, 3), (false, 4)] (by kernel_rfl) (by as_aux_lemma => kernel_rfl) (by kernel_rfl) (fun _ _ _ _ _ h => h) ?_ (fun hS => ?_)
  (· go_simp)
  simp only [Plan.pick, List.append_eq, List.cons_append, List.nil_append, Plan.g1, Plan.g2, Option.getD_some, List.drop_succ_cons, List.drop_zero]
  iterate 4 (first | refine Plan.tA ?_ | refine Plan.tY ?_ | refine Plan.pN ?_ | refine Plan.pU ?_ | fail)
  refine Plan.step ?_
  go_wp2_with fail
  refine (rLast_is _ B n c P lv sv (H.out.k (by exact Keeps.K)) L HL.out).mono ?_
  rintro e w' ⟨rfl, kk, rfl⟩
  go_wp2_with fail
  refine ⟨?_, ?_⟩
  (· go_simp)
  refine Plan.fin ?_
  go_wp2_with fail
  refine calls_fold (fun wx => Keeps [] w wx) (by exact Keeps.K) ?_
  intro w5 k5
  have K5 := hid k5
  clear k5
  refine (ranswer_any _ B n c P lv sv m false L (H.out.k K5.out)).mono ?_
  rintro e w6 ⟨a, q, rfl, hf, hk⟩
  have HP : Hid (RCallPost B n P (c, answerD c m false L) w (.returned (.slice a (answerD c m false L).length q)) w6) := RCallPost.tells ((H.out.k K5.out).toGr hlt) hlt (K5.out.mono (fun _ _ h => by cases h)) (RMsgsPost.of ⟨a, q, rfl, hf, hk⟩)
  clear hf hk
  go_wp2_with fail
  go_ret
  exact HP.out

set_option maxRecDepth 100000 in
set_option maxHeartbeats 6400000 in
theorem rtake_leads (w : World) (B n : Nat) (c : CoreD) (P : Nat → Prop) (lv sv : Value) (m : MsgD) (ea da : Option Addr) (ec dc : Nat) (h : RefAt w B n c P lv sv) (ht : ¬ m.term < c.term) (hr : c.role = 2) :
    Calls Try.prog 85 #[.pointer (some ⟨n, 0, none⟩), msgV m (.slice ea m.entries.length ec) (.slice da m.data.length dc)] w (RCallPost B n P (c, []) w) := by
  have h10 : w.cell? ⟨n, 10, none⟩ = some (.int .i64 c.term) := h.blk.cell 10
  have h12 : w.cell? ⟨n, 12, none⟩ = some (.int .i64 c.role) := h.blk.cell 12
  have hlt := h.blk.lt
  have H := hid h
  have hd : decide (m.term < c.term) = false := by simpa using ht
  have hrb : (c.role == 2) = true := by simpa using hr
  unfold msgV
  clear h hr ht
  go_enter Try.func85, Try.ntmps85
  go_wp2_with fail
  go_quiet (fail)
  go_wp2_with fail
  go_ret
  exact RCallPost.silent rfl ((H.out.k (by exact Keeps.K)).toGr hlt) (Keeps.mono (F := []) (by exact Keeps.K) (fun _ _ h => by cases h))

end Go.Proofs.Ytpppoajnbhipeaa
