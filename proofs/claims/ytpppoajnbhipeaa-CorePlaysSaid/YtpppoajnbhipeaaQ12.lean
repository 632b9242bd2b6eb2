/- Joined of TickA, RefD. -/
import Derived.Test.YtpppoajnbhipeaaQ10
import Derived.Test.YtpppoajnbhipeaaQ11

/- Tick, whole. -/
namespace Go.Proofs.Ytpppoajnbhipeaa
open Go Go.RowKit

/-- How Tick ends: its log lies where it lay. -/
def TickPost (B n : Nat) (lv sv : Value) (r : CoreD × List MsgD) (w : World) (e : Ending) (w' : World) : Prop :=
  ∃ a q, e = .returned (.slice a r.2.length q) ∧ CoreAt w' B n r.1 lv sv ∧ ListAt msgL w' (fun b => w.heap.size ≤ b) (.slice a r.2.length q) r.2 ∧ Keeps [n] w w'
def tick1 (c : CoreD) : CoreD := { c with patience := c.patience + 1 }
def tick0 (c : CoreD) : CoreD := { c with patience := 0 }
theorem tickD_still {c : CoreD} (h : c.role = 2) (h2 : c.patience + 1 < c.conf.heart) : tickD c = (tick1 c, []) := by
  show (if c.role = 2 then if c.patience + 1 < c.conf.heart then (tick1 c, []) else _ else _) = _
  rw [if_pos h, if_pos h2]
theorem tickD_sends {c : CoreD} (h : c.role = 2) (h2 : ¬ c.patience + 1 < c.conf.heart) : tickD c = (tick0 c, othersD (tick0 c) (sendD (tick0 c))) := by
  show (if c.role = 2 then if c.patience + 1 < c.conf.heart then (tick1 c, []) else (tick0 c, othersD (tick0 c) (sendD (tick0 c))) else _) = _
  rw [if_pos h, if_neg h2]
theorem tickD_waits {c : CoreD} (h : c.role ≠ 2) (h2 : c.patience + 1 < c.conf.lo + c.draw ∨ 1099511627776 ≤ c.term) : tickD c = (tick1 c, []) := by
  show (if c.role = 2 then _ else if c.patience + 1 < c.conf.lo + c.draw ∨ 1099511627776 ≤ c.term then (tick1 c, []) else _) = _
  rw [if_neg h, if_pos h2]
theorem tickD_runs {c : CoreD} (h : c.role ≠ 2) (h2 : ¬ (c.patience + 1 < c.conf.lo + c.draw ∨ 1099511627776 ≤ c.term)) : tickD c = (runD c, othersD (runD c) (voteMsg (runD c))) := by
  show (if c.role = 2 then _ else if c.patience + 1 < c.conf.lo + c.draw ∨ 1099511627776 ≤ c.term then _ else (runD (tick1 c), othersD (runD (tick1 c)) (voteMsg (runD (tick1 c))))) = _
  rw [if_neg h, if_neg h2]
  rfl
theorem TickPost.silent {B n : Nat} {lv sv : Value} {r : CoreD × List MsgD} {w w' : World} (hr : r.2 = []) (h : CoreAt w' B n r.1 lv sv) (k : Keeps [n] w w') : TickPost B n lv sv r w (.returned (.slice none 0 0)) w' :=
  ⟨none, 0, by rw [hr]; rfl, h, by rw [hr]; exact ListAt.nil _ _ _ _, k⟩

set_option maxRecDepth 100000 in
set_option maxHeartbeats 1600000 in
theorem tick_max (w : World) (B n : Nat) (c : CoreD) (lv sv : Value) (h : CoreAt w B n c lv sv) (hr : c.role ≠ 2) (hp : 0 ≤ c.patience ∧ c.patience ≤ 1000000000) (hw : ¬ c.patience + 1 < c.conf.lo + c.draw) (ht : 1099511627776 ≤ c.term) :
    Calls Try.prog 38 #[.pointer (some ⟨n, 0, none⟩)] w (TickPost B n lv sv (tickD c) w) := by
  rw [tickD_waits hr (.inr ht)]
  have hm := (ConfD.may_iff c.conf).1 h.ok.may
  have h3 : w.cell? ⟨n, 3, none⟩ = some (.int .i64 c.conf.lo) := h.blk.cell 3
  have h10 : w.cell? ⟨n, 10, none⟩ = some (.int .i64 c.term) := h.blk.cell 10
  have h12 : w.cell? ⟨n, 12, none⟩ = some (.int .i64 c.role) := h.blk.cell 12
  have h19 : w.cell? ⟨n, 19, none⟩ = some (.int .i64 c.draw) := h.blk.cell 19
  have h20 : w.cell? ⟨n, 20, none⟩ = some (.int .i64 c.patience) := h.blk.cell 20
  have f20 : w.frozen? ⟨n, 20, none⟩ = false := h.blk.free 20
  have hlt := h.blk.lt
  obtain ⟨p0, p1⟩ := hp
  have l0 : 0 ≤ c.conf.lo := by omega
  have l1 : c.conf.lo ≤ 1000 := by omega
  have d0 := h.ok.draw.1
  have d1 := h.ok.draw.2
  have hrb : (c.role == 2) = false := by simpa using hr
  have hd : decide (c.patience + 1 < c.conf.lo + c.draw) = false := by simpa using hw
  have hd2 : decide (1099511627776 ≤ c.term) = true := by simpa using ht
  have wr1 : IntKind.i64.wrap (c.conf.lo + c.draw) = c.conf.lo + c.draw := IntWalk.i64_in _ (by omega)
  have H := hid h
  have HF : Hid (∀ w1, Keeps [] w w1 → CoreAt (w1.setCell ⟨n, 20, none⟩ (.int .i64 (c.patience + 1))) B n (tick1 c) lv sv ∧ Keeps [n] w (w1.setCell ⟨n, 20, none⟩ (.int .i64 (c.patience + 1)))) := fun w1 k => by
    have k2 : Keeps [n] w1 (w1.setCell ⟨n, 20, none⟩ (.int .i64 (c.patience + 1))) := (Keeps.refl _ _).setCell (.inl (by simp)) _
    exact ⟨(h.k k).wrote k2 ((h.k k).blk.set 20 _ rfl) rfl rfl (patience_ok h.ok _), (k.mono (G := [n]) (fun _ _ h => by cases h)).trans k2 (fun _ _ h => h)⟩
  clear h hm hr
  go_enter Try.func38, Try.ntmps38
  go_wp2_with fail
  refine Plan.wp_region_plan (fun wx => wx.cell? ⟨w.heap.size, 0, none⟩ = some (.pointer (some ⟨n, 0, none⟩)) ∧ wx.cell? ⟨n, 20, none⟩ = some (.int .i64 (c.patience + 1)) ∧ wx.cell? ⟨n, 3, none⟩ = some (.int .i64 c.conf.lo) ∧ wx.cell? ⟨n, 19, none⟩ = some (.int .i64 c.draw) ∧ wx.cell? ⟨n, 10, none⟩ = some (.int .i64 c.term)) 22 [(true, 0), (true, 1), (true, 2), (true, 3), (true, 4), (true, 5), (true, 6), (true, 7), (true, 8), (true, 9), (true, 10), (true, 11), (true, 12), (true, 13), (true, 14), (true, 15), (true, 16), (true, 17), (true, 18), (true, 19), (true, 20), (true, 21)] (by kernel_rfl) (by as_aux_lemma => kernel_rfl) (by kernel_rfl) (fun _ _ _ _ _ h => h) ?_ (fun hS => ?_)
  (· go_simp)
  simp only [Plan.pick, List.append_eq, List.cons_append, List.nil_append, Plan.g1, Plan.g2, Option.getD_some, List.drop_succ_cons, List.drop_zero]
  iterate 22 (first | refine Plan.tA ?_ | refine Plan.tY ?_ | refine Plan.pN ?_ | refine Plan.pU ?_ | fail)
  refine Plan.fin ?_
  clear wr1
  go_wp2_with fail
  go_ret
  exact TickPost.silent rfl ((HF.out w (Keeps.refl [] w)).1.k ((Keeps.refl [] _).alloc _).drew) ((HF.out w (Keeps.refl [] w)).2.alloc _).drew

set_option maxRecDepth 100000 in
set_option maxHeartbeats 1600000 in
theorem tick_still (w : World) (B n : Nat) (c : CoreD) (lv sv : Value) (h : CoreAt w B n c lv sv) (hr : c.role = 2) (hp : 0 ≤ c.patience ∧ c.patience ≤ 1000000000) (hw : c.patience + 1 < c.conf.heart) :
    Calls Try.prog 38 #[.pointer (some ⟨n, 0, none⟩)] w (TickPost B n lv sv (tickD c) w) := by
  rw [tickD_still hr hw]
  have h2 : w.cell? ⟨n, 2, none⟩ = some (.int .i64 c.conf.heart) := h.blk.cell 2
  have h12 : w.cell? ⟨n, 12, none⟩ = some (.int .i64 c.role) := h.blk.cell 12
  have h20 : w.cell? ⟨n, 20, none⟩ = some (.int .i64 c.patience) := h.blk.cell 20
  have f20 : w.frozen? ⟨n, 20, none⟩ = false := h.blk.free 20
  have hlt := h.blk.lt
  obtain ⟨p0, p1⟩ := hp
  have hrb : (c.role == 2) = true := by simpa using hr
  have hd : decide (c.patience + 1 < c.conf.heart) = true := by simpa using hw
  have HF : Hid (∀ w1, Keeps [] w w1 → CoreAt (w1.setCell ⟨n, 20, none⟩ (.int .i64 (c.patience + 1))) B n (tick1 c) lv sv ∧ Keeps [n] w (w1.setCell ⟨n, 20, none⟩ (.int .i64 (c.patience + 1)))) := fun w1 k => by
    have k2 : Keeps [n] w1 (w1.setCell ⟨n, 20, none⟩ (.int .i64 (c.patience + 1))) := (Keeps.refl _ _).setCell (.inl (by simp)) _
    exact ⟨(h.k k).wrote k2 ((h.k k).blk.set 20 _ rfl) rfl rfl (patience_ok h.ok _), (k.mono (G := [n]) (fun _ _ h => by cases h)).trans k2 (fun _ _ h => h)⟩
  clear h hr
  go_enter Try.func38, Try.ntmps38
  go_wp2_with fail
  go_quiet (fail)
  go_wp2_with fail
  go_ret
  exact TickPost.silent rfl ((HF.out w (Keeps.refl [] w)).1.k (by exact Keeps.K)) ((HF.out w (Keeps.refl [] w)).2.trans (G := []) (by exact Keeps.K) (fun _ _ h => by cases h))

set_option maxRecDepth 100000 in
set_option maxHeartbeats 1600000 in
theorem tick_sends (w : World) (B n : Nat) (c : CoreD) (lv sv : Value) (h : CoreAt w B n c lv sv) (hr : c.role = 2) (hp : 0 ≤ c.patience ∧ c.patience ≤ 1000000000) (hw : ¬ c.patience + 1 < c.conf.heart) :
    Calls Try.prog 38 #[.pointer (some ⟨n, 0, none⟩)] w fun e w' => ∃ w1, CoreAt w1 B n (tick0 c) lv sv ∧ Keeps [n] w w1 ∧ MsgsPost (othersD (tick0 c) (sendD (tick0 c))) w1 e w' := by
  have h2 : w.cell? ⟨n, 2, none⟩ = some (.int .i64 c.conf.heart) := h.blk.cell 2
  have h12 : w.cell? ⟨n, 12, none⟩ = some (.int .i64 c.role) := h.blk.cell 12
  have h20 : w.cell? ⟨n, 20, none⟩ = some (.int .i64 c.patience) := h.blk.cell 20
  have f20 : w.frozen? ⟨n, 20, none⟩ = false := h.blk.free 20
  have hlt := h.blk.lt
  obtain ⟨p0, p1⟩ := hp
  have hrb : (c.role == 2) = true := by simpa using hr
  have hd : decide (c.patience + 1 < c.conf.heart) = false := by simpa using hw
  have HF : Hid (∀ o k, ∃ w6, w6 = (((w.setCell ⟨n, 20, none⟩ (.int .i64 (c.patience + 1))).alloc o).drewN k).setCell ⟨n, 20, none⟩ (.int .i64 0) ∧ CoreAt w6 B n (tick0 c) lv sv ∧ Keeps [n] w w6) := fun o k => by
    have k1 : Keeps [n] w (w.setCell ⟨n, 20, none⟩ (.int .i64 (c.patience + 1))) := (Keeps.refl _ _).setCell (.inl (by simp)) _
    have hc1 : CoreAt (w.setCell ⟨n, 20, none⟩ (.int .i64 (c.patience + 1))) B n (tick1 c) lv sv := h.wrote k1 (h.blk.set 20 _ rfl) rfl rfl (patience_ok h.ok _)
    have k2 : Keeps [] (w.setCell ⟨n, 20, none⟩ (.int .i64 (c.patience + 1))) (((w.setCell ⟨n, 20, none⟩ (.int .i64 (c.patience + 1))).alloc o).drewN k) := by exact Keeps.K
    have hc2 := hc1.k k2
    have k3 : Keeps [n] (((w.setCell ⟨n, 20, none⟩ (.int .i64 (c.patience + 1))).alloc o).drewN k) ((((w.setCell ⟨n, 20, none⟩ (.int .i64 (c.patience + 1))).alloc o).drewN k).setCell ⟨n, 20, none⟩ (.int .i64 0)) := (Keeps.refl _ _).setCell (.inl (by simp)) _
    exact ⟨_, rfl, hc2.wrote k3 (hc2.blk.set 20 _ rfl) rfl rfl (patience_ok h.ok _), (k1.trans k2 (fun _ _ h => by cases h)).trans k3 (fun _ _ h => h)⟩
  clear h hr
  go_enter Try.func38, Try.ntmps38
  go_wp2_with fail
  go_quiet (fail)
  go_wp2_with fail
  obtain ⟨w6, hw6, hc6, hk6⟩ := HF.out (.cells #[.pointer (some ⟨n, 0, none⟩)] 25) nq
  rw [← hw6]
  have HC6 := hid hc6
  have HK6 := hid hk6
  clear hw6 hc6 hk6
  refine (others_send _ B n _ lv sv HC6.out).mono ?_
  rintro x w7 ⟨a, q, rfl, hf, hk⟩
  have HP : Hid (MsgsPost (othersD (tick0 c) (sendD (tick0 c))) w6 (.returned (.slice a (othersD (tick0 c) (sendD (tick0 c))).length q)) w7) := ⟨a, q, rfl, hf, hk⟩
  clear hf hk
  go_wp2_with fail
  go_ret
  exact ⟨w6, HC6.out, HK6.out, HP.out⟩

theorem tick_any (w : World) (B n : Nat) (c : CoreD) (lv sv : Value) (h : CoreAt w B n c lv sv) (hp : 0 ≤ c.patience ∧ c.patience ≤ 1000000000) :
    Calls Try.prog 38 #[.pointer (some ⟨n, 0, none⟩)] w (TickPost B n lv sv (tickD c) w) := by
  by_cases hr : c.role = 2
  · by_cases hh : c.patience + 1 < c.conf.heart
    · exact tick_still w B n c lv sv h hr hp hh
    · refine (tick_sends w B n c lv sv h hr hp hh).mono ?_
      rintro e w' ⟨w1, h1, k1, a, q, rfl, hf, hk⟩
      rw [tickD_sends hr hh]
      exact ⟨a, q, rfl, h1.k hk, OwnAt.list hf (fun b _ hb => Nat.le_trans k1.size hb.1) (fun b hb => Nat.le_trans k1.size (OwnAt.ge hf b hb).1), k1.trans hk (fun _ _ h => by cases h)⟩
  · by_cases hw : c.patience + 1 < c.conf.lo + c.draw
    · refine (tick_wait w B n c lv sv h hr hp hw).mono ?_
      rintro e w' ⟨rfl, h1, k1⟩
      rw [tickD_waits hr (.inl hw)]
      exact TickPost.silent rfl h1 k1
    · by_cases ht : 1099511627776 ≤ c.term
      · exact tick_max w B n c lv sv h hr hp hw ht
      · refine (tick_run w B n c lv sv h hr hp (by omega) (by omega)).mono ?_
        rintro e w' ⟨a, q, rfl, h1, hl, k1⟩
        rw [tickD_runs hr (by rintro (hx | hx); exact hw hx; exact ht hx)]
        exact ⟨a, q, rfl, h1, hl, k1⟩

end Go.Proofs.Ytpppoajnbhipeaa

/- The document's core: Tick. -/
namespace Go.Proofs.Ytpppoajnbhipeaa
open Go Go.RowKit

/-- How a call of the document's core ends. -/
def RCallPost (B n : Nat) (P : Nat → Prop) (r : CoreD × List MsgD) (w : World) (e : Ending) (w' : World) : Prop :=
  ∃ a q lv' sv', e = .returned (.slice a r.2.length q) ∧ RefAt w' B n r.1 (Gr P w w') lv' sv' ∧ RMsgs P w w' (.slice a r.2.length q) r.2 ∧ Keeps [n] w w'
theorem RefAt.lt {w : World} {B n : Nat} {c : CoreD} {P : Nat → Prop} {lv sv : Value} (h : RefAt w B n c P lv sv) : n < w.heap.size := h.blk.lt
theorem RefAt.gr {w wm w' : World} {B n : Nat} {c : CoreD} {P : Nat → Prop} {lv sv : Value} (h : RefAt wm B n c (Gr P w wm) lv sv) (k : Keeps [] wm w') (hn : n < w.heap.size) : RefAt w' B n c (Gr P w w') lv sv :=
  (h.k k).mono (fun b _ hb => Gr.old k.size hb) (fun hb => by
    rcases hb with hb | hb
    · exact h.apart (.inl hb)
    · omega)
theorem RefAt.toGr {w wm : World} {B n : Nat} {c : CoreD} {P : Nat → Prop} {lv sv : Value} (h : RefAt wm B n c P lv sv) (hn : n < w.heap.size) : RefAt wm B n c (Gr P w wm) lv sv :=
  h.mono (fun b _ hb => .inl hb) (fun hb => by
    rcases hb with hb | hb
    · exact h.apart hb
    · omega)
theorem RCallPost.silent {B n : Nat} {P : Nat → Prop} {lv sv : Value} {r : CoreD × List MsgD} {w w' : World} (hr : r.2 = []) (h : RefAt w' B n r.1 (Gr P w w') lv sv) (k : Keeps [n] w w') : RCallPost B n P r w (.returned (.slice none 0 0)) w' :=
  ⟨none, 0, lv, sv, by rw [hr]; rfl, h, by rw [hr]; exact OwnAt.nil _ _ _ _, k⟩
theorem RCallPost.tells {B n : Nat} {P : Nat → Prop} {lv sv : Value} {r : CoreD × List MsgD} {w wm w' : World} {e : Ending} (h : RefAt wm B n r.1 (Gr P w wm) lv sv) (hn : n < w.heap.size) (k : Keeps [n] w wm) (hp : RMsgsPost r.2 (Gr P w wm) wm e w') : RCallPost B n P r w e w' := by
  obtain ⟨a, q, he, hf, hk⟩ := hp
  have z := k.size
  refine ⟨a, q, lv, sv, he, h.gr hk hn, ?_, k.trans hk (fun b h1 h2 => by cases h2)⟩
  exact OwnAt.mono (OwnAt.base hf z) (fun b hb0 hb => ⟨by
    rcases hb.1 with (h1 | h1) | h1
    · exact .inl h1
    · exact .inr h1.1
    · exact .inr (by omega), hb.2⟩)

set_option maxRecDepth 100000 in
set_option maxHeartbeats 1600000 in
theorem rtick_still (w : World) (B n : Nat) (c : CoreD) (P : Nat → Prop) (lv sv : Value) (h : RefAt w B n c P lv sv) (hr : c.role = 2) (hp : 0 ≤ c.patience ∧ c.patience ≤ 1000000000) (hw : c.patience + 1 < c.conf.heart) :
    Calls Try.prog 68 #[.pointer (some ⟨n, 0, none⟩)] w (RCallPost B n P (tickD c) w) := by
  rw [tickD_still hr hw]
  have h2 : w.cell? ⟨n, 2, none⟩ = some (.int .i64 c.conf.heart) := h.blk.cell 2
  have h12 : w.cell? ⟨n, 12, none⟩ = some (.int .i64 c.role) := h.blk.cell 12
  have h19 : w.cell? ⟨n, 19, none⟩ = some (.int .i64 c.patience) := h.blk.cell 19
  have f19 : w.frozen? ⟨n, 19, none⟩ = false := h.blk.free 19
  have hlt := h.blk.lt
  obtain ⟨p0, p1⟩ := hp
  have hrb : (c.role == 2) = true := by simpa using hr
  have hd : decide (c.patience + 1 < c.conf.heart) = true := by simpa using hw
  have HF : Hid (RefAt (w.setCell ⟨n, 19, none⟩ (.int .i64 (c.patience + 1))) B n (tick1 c) P lv sv ∧ Keeps [n] w (w.setCell ⟨n, 19, none⟩ (.int .i64 (c.patience + 1)))) := h.set 19 _ rfl rfl rfl (patience_ok h.ok _)
  clear h hr
  go_enter Try.func68, Try.ntmps68
  go_wp2_with fail
  go_quiet (fail)
  go_wp2_with fail
  go_ret
  exact RCallPost.silent rfl ((HF.out.1.k (by exact Keeps.K)).toGr hlt) (HF.out.2.trans (G := []) (by exact Keeps.K) (fun _ _ h => by cases h))

set_option maxRecDepth 100000 in
set_option maxHeartbeats 1600000 in
theorem rtick_sends (w : World) (B n : Nat) (c : CoreD) (P : Nat → Prop) (lv sv : Value) (h : RefAt w B n c P lv sv) (hP : ∀ b, P b → b < w.heap.size) (hr : c.role = 2) (hp : 0 ≤ c.patience ∧ c.patience ≤ 1000000000) (hw : ¬ c.patience + 1 < c.conf.heart) :
    Calls Try.prog 68 #[.pointer (some ⟨n, 0, none⟩)] w (RCallPost B n P (tickD c) w) := by
  rw [tickD_sends hr hw]
  have h2 : w.cell? ⟨n, 2, none⟩ = some (.int .i64 c.conf.heart) := h.blk.cell 2
  have h12 : w.cell? ⟨n, 12, none⟩ = some (.int .i64 c.role) := h.blk.cell 12
  have h19 : w.cell? ⟨n, 19, none⟩ = some (.int .i64 c.patience) := h.blk.cell 19
  have f19 : w.frozen? ⟨n, 19, none⟩ = false := h.blk.free 19
  have hlt := h.blk.lt
  have HPB := hid hP
  obtain ⟨p0, p1⟩ := hp
  have hrb : (c.role == 2) = true := by simpa using hr
  have hd : decide (c.patience + 1 < c.conf.heart) = false := by simpa using hw
  have HF : Hid (∀ k, ∃ w6, w6 = ((w.setCell ⟨n, 19, none⟩ (.int .i64 (c.patience + 1))).drewN k).setCell ⟨n, 19, none⟩ (.int .i64 0) ∧ RefAt w6 B n (tick0 c) P lv sv ∧ Keeps [n] w w6) := fun k => by
    obtain ⟨h1, k1⟩ := h.set (c' := tick1 c) 19 (.int .i64 (c.patience + 1)) rfl rfl rfl (patience_ok h.ok _)
    have k2 : Keeps [] (w.setCell ⟨n, 19, none⟩ (.int .i64 (c.patience + 1))) ((w.setCell ⟨n, 19, none⟩ (.int .i64 (c.patience + 1))).drewN k) := by exact Keeps.K
    obtain ⟨h3, k3⟩ := (h1.k k2).set (c' := tick0 c) 19 (.int .i64 0) rfl rfl rfl (patience_ok h.ok _)
    exact ⟨_, rfl, h3, (k1.trans k2 (fun _ _ h => by cases h)).trans k3 (fun _ _ h => h)⟩
  clear h hr hP
  go_enter Try.func68, Try.ntmps68
  go_wp2_with fail
  go_quiet (fail)
  go_wp2_with fail
  obtain ⟨w6, hw6, hc6, hk6⟩ := HF.out nq
  rw [← hw6]
  have HC6 := hid (hc6.toGr (w := w) hlt)
  have HK6 := hid hk6
  clear hw6 hc6 hk6
  refine (rall_any _ B n _ _ lv sv HC6.out (Gr.lt HPB.out HK6.out.size)).mono ?_
  rintro x w7 ⟨a, q, rfl, hf, hk⟩
  have HP : Hid (RMsgsPost (othersD (tick0 c) (sendD (tick0 c))) (Gr P w w6) w6 (.returned (.slice a (othersD (tick0 c) (sendD (tick0 c))).length q)) w7) := ⟨a, q, rfl, hf, hk⟩
  clear hf hk
  go_wp2_with fail
  go_ret
  exact RCallPost.tells HC6.out hlt HK6.out HP.out

set_option maxRecDepth 100000 in
set_option maxHeartbeats 1600000 in
theorem rtick_waits (w : World) (B n : Nat) (c : CoreD) (P : Nat → Prop) (lv sv : Value) (h : RefAt w B n c P lv sv) (hr : c.role ≠ 2) (hp : 0 ≤ c.patience ∧ c.patience ≤ 1000000000) (hw : c.patience + 1 < c.conf.lo + c.draw ∨ 1099511627776 ≤ c.term) :
    Calls Try.prog 68 #[.pointer (some ⟨n, 0, none⟩)] w (RCallPost B n P (tickD c) w) := by
  rw [tickD_waits hr hw]
  have hm := (ConfD.may_iff c.conf).1 h.ok.may
  have h3 : w.cell? ⟨n, 3, none⟩ = some (.int .i64 c.conf.lo) := h.blk.cell 3
  have h10 : w.cell? ⟨n, 10, none⟩ = some (.int .i64 c.term) := h.blk.cell 10
  have h12 : w.cell? ⟨n, 12, none⟩ = some (.int .i64 c.role) := h.blk.cell 12
  have h20 : w.cell? ⟨n, 20, none⟩ = some (.int .i64 c.draw) := h.blk.cell 20
  have h19 : w.cell? ⟨n, 19, none⟩ = some (.int .i64 c.patience) := h.blk.cell 19
  have f19 : w.frozen? ⟨n, 19, none⟩ = false := h.blk.free 19
  have hlt := h.blk.lt
  obtain ⟨p0, p1⟩ := hp
  have l0 : 0 ≤ c.conf.lo := by omega
  have l1 : c.conf.lo ≤ 1000 := by omega
  have d0 := h.ok.draw.1
  have d1 := h.ok.draw.2
  have hrb : (c.role == 2) = false := by simpa using hr
  have wr1 : IntKind.i64.wrap (c.conf.lo + c.draw) = c.conf.lo + c.draw := IntWalk.i64_in _ (by omega)
  have HF : Hid (RefAt (w.setCell ⟨n, 19, none⟩ (.int .i64 (c.patience + 1))) B n (tick1 c) P lv sv ∧ Keeps [n] w (w.setCell ⟨n, 19, none⟩ (.int .i64 (c.patience + 1)))) := h.set 19 _ rfl rfl rfl (patience_ok h.ok _)
  clear h hm hr
  rcases (show (c.patience + 1 < c.conf.lo + c.draw) ∨ (¬ c.patience + 1 < c.conf.lo + c.draw ∧ 1099511627776 ≤ c.term) by omega) with hw | ⟨hw, ht⟩
  · have hd : decide (c.patience + 1 < c.conf.lo + c.draw) = true := by simpa using hw
    go_enter Try.func68, Try.ntmps68
    go_wp2_with fail
    refine Plan.wp_region_plan (fun wx => wx.cell? ⟨n, 19, none⟩ = some (.int .i64 (c.patience + 1)) ∧ wx.cell? ⟨n, 3, none⟩ = some (.int .i64 c.conf.lo) ∧ wx.cell? ⟨n, 20, none⟩ = some (.int .i64 c.draw)) 22 [(true, 0), (true, 1), (true, 2), (true, 3), (true, 4), (true, 5), (true, 6), (true, 7), (true, 8), (true, 9), (true, 10), (true, 11), (true, 12), (true, 13), (true, 14), (true, 15), (true, 16), (true, 17), (true, 18), (true, 19), (true, 20), (true, 21)] (by kernel_rfl) (by as_aux_lemma => kernel_rfl) (by kernel_rfl) (fun _ _ _ _ _ h => h) ?_ (fun hS => ?_)
    (· go_simp)
    simp only [Plan.pick, List.append_eq, List.cons_append, List.nil_append, Plan.g1, Plan.g2, Option.getD_some, List.drop_succ_cons, List.drop_zero]
    iterate 22 (first | refine Plan.tA ?_ | refine Plan.tY ?_ | refine Plan.pN ?_ | refine Plan.pU ?_ | fail)
    refine Plan.fin ?_
    clear wr1
    go_wp2_with fail
    go_ret
    exact RCallPost.silent rfl ((HF.out.1.k (by exact Keeps.K)).toGr hlt) (HF.out.2.trans (G := []) (by exact Keeps.K) (fun _ _ h => by cases h))
  · have hd : decide (c.patience + 1 < c.conf.lo + c.draw) = false := by simpa using hw
    have hd2 : decide (1099511627776 ≤ c.term) = true := by simpa using ht
    go_enter Try.func68, Try.ntmps68
    go_wp2_with fail
    refine Plan.wp_region_plan (fun wx => wx.cell? ⟨n, 19, none⟩ = some (.int .i64 (c.patience + 1)) ∧ wx.cell? ⟨n, 3, none⟩ = some (.int .i64 c.conf.lo) ∧ wx.cell? ⟨n, 20, none⟩ = some (.int .i64 c.draw) ∧ wx.cell? ⟨n, 10, none⟩ = some (.int .i64 c.term)) 22 [(true, 0), (true, 1), (true, 2), (true, 3), (true, 4), (true, 5), (true, 6), (true, 7), (true, 8), (true, 9), (true, 10), (true, 11), (true, 12), (true, 13), (true, 14), (true, 15), (true, 16), (true, 17), (true, 18), (true, 19), (true, 20), (true, 21)] (by kernel_rfl) (by as_aux_lemma => kernel_rfl) (by kernel_rfl) (fun _ _ _ _ _ h => h) ?_ (fun hS => ?_)
    (· go_simp)
    simp only [Plan.pick, List.append_eq, List.cons_append, List.nil_append, Plan.g1, Plan.g2, Option.getD_some, List.drop_succ_cons, List.drop_zero]
    iterate 22 (first | refine Plan.tA ?_ | refine Plan.tY ?_ | refine Plan.pN ?_ | refine Plan.pU ?_ | fail)
    refine Plan.fin ?_
    clear wr1
    go_wp2_with fail
    go_ret
    exact RCallPost.silent rfl ((HF.out.1.k (by exact Keeps.K)).toGr hlt) (HF.out.2.trans (G := []) (by exact Keeps.K) (fun _ _ h => by cases h))

end Go.Proofs.Ytpppoajnbhipeaa
