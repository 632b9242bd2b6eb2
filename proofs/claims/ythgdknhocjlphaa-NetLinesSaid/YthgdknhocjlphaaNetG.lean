/- (*net.Net).Take. -/
import Derived.Test.YthgdknhocjlphaaNetF
import Derived.Test.YthgdknhocjlphaaRows2
import Derived.Test.YthgdknhocjlphaaPlan
import Derived.Deep.DeepMust
namespace Go.Proofs.Ythgdknhocjlphaa
open Go Go.RowKit

set_option maxHeartbeats 400000 in
theorem Take_out (n : Nat) (i : Int) (a : Option Addr) (k c : Nat) (w : World) (hl : w.cell? ⟨n, 1, none⟩ = some (.slice a k c)) (hi : i < 0 ∨ (k : Int) ≤ i) :
    Calls Try.prog 10 #[.pointer (some ⟨n, 0, none⟩), .int .i64 i] w fun e w' => e = .returned (.tuple #[.slice none 0 0, .bool false]) ∧ w' = w := by
  have H := hid hi
  clear hi
  go_enter Try.func10, Try.ntmps10
  go_wp2_with (go_at_call 15; refine (look_out n i a k c _ hl H.out).mono ?_; rintro e w' ⟨rfl, rfl⟩)
  go_ret2
  exact ⟨rfl, rfl⟩

/-- The row behind the copy and the clear. -/
theorem row_taken (cur xs : List Value) (q j : Nat) (zs : List Value) (hj : j < q + 1) (hx : cur.take ((q + 1) * 2) = xs) (hl : (q + 1) * 2 ≤ cur.length) (hz : zs.length = 2) :
    (lay (lay cur (j * 2) (xs.drop ((j + 1) * 2))) (q * 2) zs).take (q * 2) = xs.take (j * 2) ++ xs.drop ((j + 1) * 2) ∧ (lay (lay cur (j * 2) (xs.drop ((j + 1) * 2))) (q * 2) zs).length = cur.length := by
  have hxl : xs.length = (q + 1) * 2 := by rw [← hx, List.length_take]; omega
  have hcl : (xs.drop ((j + 1) * 2)).length = q * 2 - j * 2 := by rw [List.length_drop, hxl]; omega
  have l1 : (lay cur (j * 2) (xs.drop ((j + 1) * 2))).length = cur.length := lay_length _ _ _ (by rw [hcl]; omega)
  have l2 := lay_length (lay cur (j * 2) (xs.drop ((j + 1) * 2))) (q * 2) zs (by rw [l1]; omega)
  refine ⟨?_, l2.trans l1⟩
  have e1 : (lay (lay cur (j * 2) (xs.drop ((j + 1) * 2))) (q * 2) zs).take (q * 2) = (lay cur (j * 2) (xs.drop ((j + 1) * 2))).take (q * 2) := by
    show List.take (q * 2) (List.take (q * 2) _ ++ zs ++ _) = _
    rw [List.append_assoc, List.take_append_of_le_length (by rw [List.length_take, l1]; omega), List.take_of_length_le (by rw [List.length_take]; omega)]
  rw [e1]
  have e2 := lay_take cur (j * 2) (xs.drop ((j + 1) * 2)) (by rw [hcl]; omega)
  rw [hcl, show j * 2 + (q * 2 - j * 2) = q * 2 by omega] at e2
  rw [e2, ← hx, List.take_take, Nat.min_eq_left (by omega)]

theorem take_close {n g q cap room bl : Nat} {L xs : List Value} {bv : Value} {bs : List UInt8} {w w1 w3 : World} (hb : w.heap[n]? = some (.cells #[.int .i64 room, .slice (some ⟨g, 0, none⟩) (q + 1) cap] 49 (0, 0))) (hng : n ≠ g) (hgl : g < w.heap.size)
    (h3 : w3.heap[g]? = some (.cells L.toArray 52 (0, 0))) (hL1 : L.take (q * 2) = xs) (hL2 : L.length = cap * 2) (hxs : xs.length = q * 2) (hqc : q ≤ cap) (hcm : cap ≤ maxLen) (K3 : Keeps [g] w w3) (ho : w1.ownsRow w.heap.size 5 1 bv bl (u8s bs)) (K13 : Keeps [g] w1 w3) :
    (w3.setCell ⟨n, 1, none⟩ (.slice (some ⟨g, 0, none⟩) q cap)).ownsRow w.heap.size 5 1 bv bl (u8s bs) ∧
      (w3.setCell ⟨n, 1, none⟩ (.slice (some ⟨g, 0, none⟩) q cap)).heap[n]? = some (.cells #[.int .i64 room, .slice (some ⟨g, 0, none⟩) q cap] 49 (0, 0)) ∧
      (w3.setCell ⟨n, 1, none⟩ (.slice (some ⟨g, 0, none⟩) q cap)).ownsRow 0 52 2 (.slice (some ⟨g, 0, none⟩) q cap) q xs ∧ Keeps [n, g] w (w3.setCell ⟨n, 1, none⟩ (.slice (some ⟨g, 0, none⟩) q cap)) := by
  have hlt : n < w.heap.size := (Array.getElem?_eq_some_iff.1 hb).1
  have KS : Keeps [n] w3 (w3.setCell ⟨n, 1, none⟩ (.slice (some ⟨g, 0, none⟩) q cap)) := (Keeps.refl _ _).setCell (.inl (by simp)) _
  refine ⟨ownsRow_keeps (ownsRow_keeps ho K13 (fun b hb' e => ?_)) KS (fun b hb' e => ?_), ?_, ⟨hxs, .inr ⟨g, cap, L.toArray, rfl, Nat.zero_le _, ?_, hqc, hcm, by simpa using hL2, by simpa using hL1⟩⟩, ?_⟩
  · have := (ownB_ge ho b hb').1
    simp at e; omega
  · have := (ownB_ge ho b hb').1
    simp at e; omega
  · rw [heap_setCell_same w3 n 1 _ _ _ ((K3.block n hlt (by simp [hng])).trans hb)]; rfl
  · rw [KS.block g (Array.getElem?_eq_some_iff.1 h3).1 (by simp [Ne.symm hng])]; exact h3
  · exact (K3.mono (fun _ _ h => by simp at h; simp [h])).setCell (.inl (by simp)) _

set_option maxRecDepth 100000 in
set_option maxHeartbeats 1600000 in
theorem Take_in (n j g q cap room : Nat) (v : Value) (bs : List UInt8) (xs : List Value) (w : World) (hb : w.heap[n]? = some (.cells #[.int .i64 room, .slice (some ⟨g, 0, none⟩) (q + 1) cap] 49 (0, 0))) (hj : j < q + 1) (hk : q < 100000) (hkc : q + 1 ≤ cap) (hcm : cap ≤ maxLen)
    (hown : w.ownsRow 0 52 2 (.slice (some ⟨g, 0, none⟩) (q + 1) cap) (q + 1) xs) (h1 : ∀ u ∈ xs, u.oneCell' = true) (hng : n ≠ g)
    (hv : w.cell? ⟨g, j * 2, none⟩ = some v) (hr : Reads w 1 v bs.length (u8s bs)) (hbs : bs.length ≤ 140737488355328) :
    Calls Try.prog 10 #[.pointer (some ⟨n, 0, none⟩), .int .i64 j] w fun e w' => ∃ a c, e = .returned (.tuple #[.slice a bs.length c, .bool true]) ∧ w'.ownsRow w.heap.size 5 1 (.slice a bs.length c) bs.length (u8s bs) ∧
      w'.heap[n]? = some (.cells #[.int .i64 room, .slice (some ⟨g, 0, none⟩) q cap] 49 (0, 0)) ∧ w'.ownsRow 0 52 2 (.slice (some ⟨g, 0, none⟩) q cap) q (xs.take (j * 2) ++ xs.drop ((j + 1) * 2)) ∧ Keeps [n, g] w w' := by
  obtain ⟨i0, hi, hz0, hz1, hz2⟩ := info_parts Try.infoOne
  have hl : w.cell? ⟨n, 1, none⟩ = some (.slice (some ⟨g, 0, none⟩) (q + 1) cap) := by simpa using cell_of_block hb 1
  have hlt : n < w.heap.size := (Array.getElem?_eq_some_iff.1 hb).1
  obtain ⟨cur, hgc, hcs, htake⟩ : ∃ cur : Array Value, w.heap[g]? = some (.cells cur 52 (0, 0)) ∧ cur.size = cap * 2 ∧ cur.toList.take ((q + 1) * 2) = xs := by
    rcases hown.2 with ⟨h, _⟩ | ⟨g', cap', cur, h, _, hgg, _, _, hcs, htake⟩
    · cases h
    · simp only [Value.slice.injEq, Option.some.injEq, Addr.mk.injEq, and_true, true_and] at h
      obtain ⟨rfl, rfl⟩ := h
      exact ⟨cur, hgg, hcs, htake⟩
  have hgl : g < w.heap.size := (Array.getElem?_eq_some_iff.1 hgc).1
  have hxl := hown.1
  have hcl : (xs.drop ((j + 1) * 2)).length = (q - j) * 2 := by rw [List.length_drop, hxl]; omega
  obtain ⟨rt1, rt2⟩ := row_taken cur.toList xs q j (Builtin.zeroCells (Value.agg #[.slice none 0 0, .bool false]).cells 1).toList hj htake (by simp; omega) (by simp [Builtin.zeroCells, Value.cells])
  have HR3 : Hid ((lay cur.toList (j * 2) (xs.drop ((j + 1) * 2))).length = cap * 2) := by show _ = _; rw [lay_length _ _ _ (by rw [hcl]; simp; omega)]; simpa using hcs
  have HF : Hid (w.frozen? ⟨n, 1, none⟩ = false) := frozen_of_row w n 1 _ _ hb
  have H := hid hr
  have HB := hid hb
  have H1 := hid h1
  have HC := hid hgc
  have HS := hid hcs
  have HT := hid htake
  have HL := hid hcl
  have HR1 := hid rt1
  have HR2 := hid rt2
  have HX := hid hxl
  have hown' := hid hown
  clear hr hb h1 hgc hcs htake hown hcl rt1 rt2 hxl
  have hcm' : (cap : Int) ≤ 9223372036854775807 := by unfold maxLen at hcm; omega
  have HM := hid hcm
  clear hcm
  have j0 : (0 : Int) ≤ (j : Int) := Int.natCast_nonneg _
  have j1 : (j : Int) < (q : Int) + 1 := by omega
  have j2 : (q : Int) + 1 ≤ (cap : Int) := by omega
  have j3 : (0 : Int) ≤ (j : Int) + 1 := by omega
  have j4 : (j : Int) + 1 ≤ (q : Int) + 1 := by omega
  have j5 : (j : Int) ≤ (q : Int) + 1 := by omega
  have jc : ¬ cap = j := by omega
  have jq : ¬ cap = q := by omega
  have jk : j ≤ q + 1 := by omega
  have jk1 : j + 1 ≤ q + 1 := by omega
  have q0 : (0 : Int) ≤ (q : Int) := Int.natCast_nonneg _
  have hsrc : Hid (∀ (i : Nat) u, (xs.drop ((j + 1) * 2))[i]? = some u → w.cell? ⟨g, (j + 1) * 2 + i, none⟩ = some u) := fun i u hu => by
    rw [List.getElem?_drop] at hu
    have hlt : (j + 1) * 2 + i < (q + 1) * 2 := by rw [← HX.out]; exact (List.getElem?_eq_some_iff.1 hu).1
    rw [hown'.out.cellAt _ hlt]; exact hu
  have HE : Hid ((xs.take (j * 2) ++ xs.drop ((j + 1) * 2)).length = q * 2) := by show _ = _; rw [List.length_append, List.length_take, HL.out, HX.out]; omega
  have HQ : Hid (q ≤ cap) := by show _ ≤ _; omega
  obtain ⟨x, hje, HJ⟩ : ∃ x : Prop, ((cap = j + 1) ↔ x) ∧ Hid (x = True ∨ x = False) := by
    rcases Decidable.em (cap = j + 1) with h | h
    · exact ⟨True, by simp [h], .inl rfl⟩
    · exact ⟨False, by simp [h], .inr rfl⟩
  rcases HJ.out with rfl | rfl
  all_goals
    have HJE := hid hje
    go_enter Try.func10, Try.ntmps10
    go_wp2_with (go_at_call 15; refine (look_in n j g (q + 1) cap v bs _ hl hj (by omega) hv H.out hbs).mono ?_; rintro e w1 ⟨av, cv, rfl, ho, hg⟩; have hl1 : w1.cell? ⟨n, 1, none⟩ = some (.slice (some ⟨g, 0, none⟩) (q + 1) cap) := (hg.cell_far _ hlt (by simp)).trans hl)
    have hw : IntKind.i64.wrap ((j : Int) + 1) = (j : Int) + 1 := IntWalk.i64_in _ (by omega)
    have ht : ((j : Int) + 1).toNat = j + 1 := by omega
    refine Plan.wp_region_plan (fun w' => w'.cell? ⟨n, 1, none⟩ = some (.slice (some ⟨g, 0, none⟩) (q + 1) cap)) 13 [(true, 0), (true, 1), (true, 2), (true, 3), (true, 4), (true, 5), (true, 6), (true, 7), (true, 8), (true, 9), (true, 10), (true, 11), (true, 12)] (by kernel_rfl) (by kernel_rfl) (by kernel_rfl) (fun _ _ _ _ _ h => h) ?_ (fun hS => ?_)
    (· simpa using hl1)
    simp only [Plan.pick, List.getElem?_cons_zero, List.getElem?_cons_succ, Option.getD_some, List.drop_succ_cons, List.drop_zero]
    repeat (first | (refine Plan.take (v := ?_) (a' := ?_) (by rfl) ?_ ?_ ?_; rotate_left 2; (· (intro w' hS'; (try dsimp only at hS'); go_simp; try with_reducible rfl)); (· (simp only [Act.put, List.setIfInBounds_toArray, List.set_cons_zero, List.set_cons_succ]; try with_reducible rfl))) | (refine Plan.pass (a' := ?_) (by rfl) ?_ ?_; rotate_left 1; (· (simp only [Act.put, List.setIfInBounds_toArray, List.set_cons_zero, List.set_cons_succ]; try with_reducible rfl))))
    clear hw ht
    refine Plan.fin ?_
    go_wp2_with (first | (show wpList _ _ _ (⟨some 35, _, _, _, _, _⟩ :: _) _ _; go_must (refine wpList_copy_rows _ (by rfl) (.tmp 27) (.tmp 34) 47 (by rfl) 52 i0 2 Try.underlying47 hi hz1 _ _ _ _ _ _ (by rfl) (by rfl) g (j * 2) cur 52 (by exact (hg.block g hgl (by simp)).trans HC.out) (xs.drop ((j + 1) * 2)) (by rw [HL.out]; simp only [Nat.min_def]; split <;> omega) (fun hp => by first | (exfalso; rw [HL.out] at hp; have hh := HJE.out; simp at hh; omega) | exact ⟨rfl, _, rfl, fun i u hu => by rw [addr_add, World.cell?_drew, hg.cell_far _ hgl (by simp)]; exact hsrc.out i u hu⟩) (by rw [HL.out, HS.out]; omega) (fun u hu => H1.out u (List.mem_of_mem_drop hu)) (by omega) ?_; intro w2 h2 g2; have K2 : Hid (Keeps [g] w w2) := ((Keeps.refl [] w).grown hg rfl rfl rfl rfl (fun _ h => by cases h)).mono (G := [g]) (fun _ _ h => by cases h) |>.grown g2.out rfl rfl rfl rfl (fun k h => by cases h; simp); have hl2 : w2.cell? ⟨n, 1, none⟩ = some (.slice (some ⟨g, 0, none⟩) (q + 1) cap) := K2.out.cellSome hl (by simp [hng]))) | (show wpList _ _ _ (⟨none, .call _, _, _, _, _⟩ :: _) _ _; go_must (refine wpList_clear_row _ (by rfl) (.tmp 41) 47 (by rfl) 52 i0 (.agg #[.slice none 0 0, .bool false]) Try.underlying47 hi hz0 _ _ _ (by rfl) g (q * 2) _ 52 h2.out (fun _ => by simp) (by have e := HR3.out; simp only [List.size_toArray, Value.cells, List.length_cons, List.length_nil, e]; omega) (by simp [Value.cells, Value.oneCell']) (by simp [Value.cells]) ?_); intro w3 h3 g3; have K3 : Hid (Keeps [g] w w3) := K2.out.grown g3.out rfl rfl rfl rfl (fun k h => by cases h; simp); have hl3 : w3.cell? ⟨n, 1, none⟩ = some (.slice (some ⟨g, 0, none⟩) (q + 1) cap) := K3.out.cellSome hl (by simp [hng]); have f3 : w3.frozen? ⟨n, 1, none⟩ = false := (K3.out.frozen hlt (by simp [hng])).trans HF.out))
    go_ret2
    exact ⟨av, cv, rfl, take_close HB.out hng hgl h3.out HR1.out (by rw [HR2.out]; simpa using HS.out) HE.out HQ.out HM.out K3.out ho (((Keeps.refl [g] w1).grown g2.out rfl rfl rfl rfl (fun k h => by cases h; simp)).grown g3.out rfl rfl rfl rfl (fun k h => by cases h; simp))⟩

/-- What Take answers, what it leaves. -/
def TakeS (ms : Mail) (i : Int) : Option (List UInt8) × Mail := if i < 0 ∨ (ms.length : Int) ≤ i then (none, ms) else (lookS ms i, ms.eraseIdx i.toNat)

theorem mcells_one (w : World) (et : TypeId) (lv : Value) (vs : List Value) (ms : Mail) (F : List Nat) (h : Msgs w et lv vs ms F) : ∀ u ∈ mcells vs ms, u.oneCell' = true := by
  have key : ∀ (vs : List Value) (ms : Mail), (∀ (i : Nat) (v : Value), vs[i]? = some v → v.oneCell' = true) → ∀ u ∈ mcells vs ms, u.oneCell' = true := by
    intro vs
    induction vs with
    | nil => intro ms _ u hu; cases ms <;> simp [mcells] at hu
    | cons v vs ih =>
      intro ms hv u hu
      cases ms with
      | nil => simp [mcells] at hu
      | cons m ms =>
        simp only [mcells, List.mem_cons] at hu
        rcases hu with rfl | rfl | hu
        · exact hv 0 _ rfl
        · rfl
        · exact ih ms (fun i v h => hv (i + 1) v (by simpa using h)) u hu
  refine key vs ms (fun i v hi => ?_)
  have hl : i < ms.length := by rw [← h.len]; exact (List.getElem?_eq_some_iff.1 hi).1
  obtain ⟨a, c, rfl⟩ := len_form (h.body i v _ hi (List.getElem?_eq_getElem hl))
  rfl

theorem mcells_erase : ∀ (vs : List Value) (ms : Mail) (j : Nat), vs.length = ms.length → j < ms.length → (mcells vs ms).take (j * 2) ++ (mcells vs ms).drop ((j + 1) * 2) = mcells (vs.eraseIdx j) (ms.eraseIdx j)
  | [], [], _, _, h => by simp at h
  | v :: vs, m :: ms, 0, _, _ => by simp [mcells]
  | v :: vs, m :: ms, j + 1, h, g => by
    simp only [List.length_cons] at h g
    have := mcells_erase vs ms j (by omega) (by omega)
    simp only [mcells, List.eraseIdx_cons_succ, show (j + 1) * 2 = j * 2 + 1 + 1 by omega, show (j + 1 + 1) * 2 = (j + 1) * 2 + 1 + 1 by omega, List.take_succ_cons, List.drop_succ_cons, List.cons_append]
    rw [← this]
    simp [show j * 2 + 1 + 1 = (j + 1) * 2 by omega]
  | [], m :: ms, _, h, _ => by simp at h
  | v :: vs, [], _, h, _ => by simp at h

theorem getElem?_erase_some {α : Type} {l : List α} {j i : Nat} {x : α} (h : (l.eraseIdx j)[i]? = some x) : ∃ k, l[k]? = some x ∧ ((i < j ∧ k = i) ∨ (j ≤ i ∧ k = i + 1)) := by
  rw [List.getElem?_eraseIdx] at h
  split at h
  · exact ⟨i, h, .inl ⟨by assumption, rfl⟩⟩
  · exact ⟨i + 1, h, .inr ⟨by omega, rfl⟩⟩

theorem flatMap_erase_sub {α : Type} (f : α → List Nat) (l : List α) (j : Nat) : ((l.eraseIdx j).flatMap f).Sublist (l.flatMap f) := by
  induction l generalizing j with
  | nil => simp
  | cons x l ih =>
    cases j with
    | zero => simp only [List.eraseIdx_cons_zero, List.flatMap_cons]; exact List.sublist_append_right _ _
    | succ j => simp only [List.eraseIdx_cons_succ, List.flatMap_cons]; exact (List.Sublist.refl _).append (ih j)

/-- A message less, in the same list block. -/
theorem Msgs.taken {w w' : World} {et : TypeId} {lv lv' : Value} {vs : List Value} {ms : Mail} {F G : List Nat} {j : Nat} (h : Msgs w et lv vs ms F) (hj : j < ms.length) (hk : Keeps G w w') (hG : ∀ b ∈ vs.flatMap ownB, b ∉ G)
    (ho : w'.ownsRow 0 et 2 lv' (ms.length - 1) ((mcells vs ms).take (j * 2) ++ (mcells vs ms).drop ((j + 1) * 2))) (hb : ∀ b ∈ ownB lv', b ∈ ownB lv ∨ w.heap.size ≤ b) (hbn : (ownB lv').Nodup) :
    Msgs w' et lv' (vs.eraseIdx j) (ms.eraseIdx j) (ownB lv' ++ (vs.eraseIdx j).flatMap ownB) ∧ ∀ k ∈ ownB lv' ++ (vs.eraseIdx j).flatMap ownB, k ∈ F ∨ w.heap.size ≤ k := by
  have hlt := h.lt
  have hnd := h.nd
  rw [h.fp] at hnd hlt
  obtain ⟨n1, n2, n3⟩ := List.nodup_append.1 hnd
  have hsub := flatMap_erase_sub ownB vs j
  refine ⟨⟨by rw [List.length_eraseIdx_of_lt (by rw [h.len]; exact hj), List.length_eraseIdx_of_lt hj, h.len], ?_, fun i v m hv hm => ?_, rfl, ?_⟩, fun k hk => ?_⟩
  · rw [List.length_eraseIdx_of_lt hj, ← mcells_erase _ _ _ h.len hj]; exact ho
  · obtain ⟨k, hk1, hk2⟩ := getElem?_erase_some hv
    obtain ⟨k', hk1', hk2'⟩ := getElem?_erase_some hm
    obtain rfl : k = k' := by omega
    exact ownsRow_keeps (h.body k v m hk1 hk1') hk (fun b hb => hG b (List.mem_flatMap.2 ⟨v, List.mem_of_getElem? hk1, hb⟩))
  · refine List.nodup_append.2 ⟨hbn, n2.sublist hsub, fun a ha b hb' => ?_⟩
    rintro rfl
    have hm := hsub.subset hb'
    rcases hb a ha with h1 | h1
    · exact n3 a h1 a hm rfl
    · have := hlt a (List.mem_append_right _ hm); omega
  · rw [h.fp]
    rcases List.mem_append.1 hk with hk | hk
    · exact (hb k hk).imp (List.mem_append_left _) id
    · exact .inl (List.mem_append_right _ (hsub.subset hk))

theorem Take_any (n room : Nat) (ms : Mail) (F : List Nat) (i : Int) (w : World) (h : NetRep w n room ms F) (hs : Small ms) :
    Calls Try.prog 10 #[.pointer (some ⟨n, 0, none⟩), .int .i64 i] w fun e w' => ∃ a c,
      ((TakeS ms i = (none, ms) ∧ e = .returned (.tuple #[.slice none 0 0, .bool false]) ∧ w' = w) ∨ ∃ bs F', TakeS ms i = (some bs, ms.eraseIdx i.toNat) ∧ i.toNat < ms.length ∧ e = .returned (.tuple #[.slice a bs.length c, .bool true]) ∧ w'.ownsRow w.heap.size 5 1 (.slice a bs.length c) bs.length (u8s bs) ∧ NetRep w' n room (ms.eraseIdx i.toNat) F' ∧ Turned F F' w w' ∧ ∀ b ∈ F', b ∈ F) := by
  obtain ⟨lv, vs, G, hb, hm, rfl, hn⟩ := h
  have hfp := hm.fp
  by_cases hi : i < 0 ∨ (ms.length : Int) ≤ i
  · obtain ⟨a, c, rfl⟩ := hm.form
    refine (Take_out n i a ms.length c w (by simpa using cell_of_block hb 1) hi).mono fun e w' ⟨he, hw⟩ => ?_
    exact ⟨none, 0, .inl ⟨if_pos hi, he, hw⟩⟩
  · obtain ⟨j, rfl⟩ := Int.eq_ofNat_of_zero_le (show 0 ≤ i by omega)
    obtain ⟨g, cap, v, m, rfl, hv, hmj, c0, c1, ho, f0, f1, hg, hcap, hcm⟩ := hm.at j (by omega)
    have hng : n ≠ g := fun e => hn (by rw [hfp, e]; exact List.mem_append_left _ hg)
    have hml := hs.1
    obtain ⟨q, hq⟩ : ∃ q, ms.length = q + 1 := ⟨ms.length - 1, by omega⟩
    have hown := hm.own
    rw [hq] at hb hown hcap
    refine (Take_in n j g q cap room v m.1 (mcells vs ms) w hb (by omega) (by omega) hcap hcm hown (mcells_one w _ _ vs ms _ hm) hng c0 (Reads.ofOwn ho) (hs.2 m (List.mem_of_getElem? hmj))).mono fun e w' ⟨a, c, he, h1, h2, h3, h4⟩ => ?_
    have hGd : ∀ b ∈ vs.flatMap ownB, b ∉ [n, g] := fun b hq hb' => by
      simp at hb'
      rcases hb' with e | e
      · exact hn (by rw [hfp, ← e]; exact List.mem_append_right _ hq)
      · have hnd := hm.nd
        rw [hfp] at hnd
        exact (List.nodup_append.1 hnd).2.2 g hg b hq e.symm
    obtain ⟨hM, hF⟩ := Msgs.taken (lv' := .slice (some ⟨g, 0, none⟩) q cap) hm (show j < ms.length by omega) h4 hGd (by rw [hq]; exact h3) (fun b hb => .inl (by simpa [mem_ownB, Value.ownBlock] using hb)) (by simp [ownB, Value.ownBlock])
    have hF2 : ∀ k ∈ ownB (.slice (some ⟨g, 0, none⟩) q cap) ++ (vs.eraseIdx j).flatMap ownB, k ∈ G := fun k hk => by
      rw [hfp]
      rcases List.mem_append.1 hk with hk | hk
      · exact List.mem_append_left _ (by simpa [mem_ownB, Value.ownBlock] using hk)
      · exact List.mem_append_right _ ((flatMap_erase_sub ownB vs j).subset hk)
    refine ⟨a, c, .inr ⟨m.1, n :: _, ?_, ?_, he, h1, ⟨_, _, _, h2, hM, rfl, fun hin => hn (hF2 n hin)⟩, ⟨h4.mono (fun k _ hk => ?_), fun k hk => ?_⟩, fun b hb => ?_⟩⟩
    · show TakeS ms _ = _
      unfold TakeS
      rw [if_neg hi, lookS_in hmj]
    · simp; omega
    · simp at hk
      rcases hk with rfl | rfl
      · simp
      · exact List.mem_cons_of_mem _ (by rw [hfp]; exact List.mem_append_left _ hg)
    · rcases List.mem_cons.1 hk with rfl | hk
      · simp
      · exact .inl (List.mem_cons_of_mem _ (hF2 k hk))
    · rcases List.mem_cons.1 hb with rfl | hb
      · simp
      · exact List.mem_cons_of_mem _ (hF2 b hb)

end Go.Proofs.Ythgdknhocjlphaa
