/- The document's net, told by lists; New of both. -/
import Derived.Test.YthgdknhocjlphaaNetK
namespace Go.Proofs.Ythgdknhocjlphaa
open Go Go.RowKit

theorem RefRep.ofAppended {w w' : World} {n room : Nat} {lv : Value} {vs : List Value} {ms : Mail} {G : List Nat} {bs : List UInt8} {s : Bool} (hb : w.heap[n]? = some (.cells #[lv, .int .i64 room] 57 (0, 0))) (hm : Msgs w 59 lv vs ms G) (hn : n ∉ G)
    (h : Appended w w' n room ms.length lv (mcells vs ms) bs s) : ∃ F', RefRep w' n room (ms ++ [(bs, s)]) F' ∧ Turned (n :: G) F' w w' := by
  obtain ⟨g, cap, bv', h1, h2, h3, h4, h5, h6⟩ := h
  have hfp := hm.fp
  obtain ⟨hM, hF⟩ := Msgs.snoc (lv' := .slice (some ⟨g, 0, none⟩) (ms.length + 1) cap) hm h4 (fun b hq hb' => by
    have hnd := hm.nd
    rw [hfp] at hnd
    rcases List.mem_cons.1 hb' with e | hb'
    · exact hn (by rw [hfp, ← e]; exact List.mem_append_right _ hq)
    · exact (List.nodup_append.1 hnd).2.2 b hb' b hq rfl) h2 h3 (fun b hb => by
      have e := mem_ownB.1 hb
      simp [Value.ownBlock] at e
      subst e
      exact h5.imp mem_ownB.2 id) (fun b hb => by
      have e := mem_ownB.1 hb
      simp [Value.ownBlock] at e
      subst e
      exact h6)
  refine ⟨_, ⟨_, _, _, h1, hM, rfl, fun hin => ?_⟩, h4.mono (fun k _ hk => ?_), fun k hk => ?_⟩
  · rcases hF n hin with h | h
    · exact hn h
    · have := (Array.getElem?_eq_some_iff.1 hb).1; omega
  · rcases List.mem_cons.1 hk with rfl | hk
    · simp
    · exact List.mem_cons_of_mem _ (by rw [hfp]; exact List.mem_append_left _ hk)
  · rcases List.mem_cons.1 hk with rfl | hk
    · simp
    · exact (hF k hk).imp (List.mem_cons_of_mem _) id

theorem rSend_any (n room : Nat) (ms : Mail) (F : List Nat) (v : Value) (bs : List UInt8) (w : World) (h : RefRep w n room ms F) (hr : Reads w 1 v bs.length (u8s bs)) (hbs : bs.length ≤ 140737488355328) (hk : ms.length ≤ 100000) :
    Calls Try.prog 26 #[.pointer (some ⟨n, 0, none⟩), v] w fun e w' => e = .returned (.int .i64 (SendS room ms bs).1) ∧ ∃ F', RefRep w' n room (SendS room ms bs).2 F' ∧ Turned F F' w w' := by
  obtain ⟨a, c, rfl⟩ : ∃ a c, v = .slice a bs.length c := by
    rcases hr.2 with ⟨h0, a, c, rfl⟩ | ⟨_, b, off, c, rfl, _⟩
    · exact ⟨a, c, by rw [h0]⟩
    · exact ⟨_, _, rfl⟩
  have h' := h
  obtain ⟨lv, vs, G, hb, hm, rfl, hn⟩ := h
  have hnl : n ∉ ownB lv := fun h => hn (by rw [hm.fp]; exact List.mem_append_left _ h)
  unfold SendS sendS
  by_cases h0 : bs.length = 0
  · rw [if_pos h0]
    rw [h0]
    exact (rSend_empty n a c w).mono fun e w' ⟨he, hw⟩ => by
      subst hw
      exact ⟨he, _, h', Keeps.refl _ _, fun k hk => .inl hk⟩
  · rw [if_neg h0]
    by_cases hf : room ≤ ms.length
    · rw [if_pos hf]
      obtain ⟨a2, c2, rfl⟩ := hm.form
      exact (rSend_full n room ms.length a2 a c2 bs.length c w (by simpa using cell_of_block hb 0) (by simpa using cell_of_block hb 1) h0 hf).mono fun e w' ⟨he, hk⟩ =>
        ⟨he, _, h'.keeps hk (fun _ _ h => by cases h), hk.mono (fun _ _ h => by cases h), fun k hk => .inl hk⟩
    · rw [if_neg hf]
      exact (rSend_room n room ms.length lv a c bs _ w hb hr hbs hm.own hnl (by omega) hk h0).mono fun e w' ⟨he, hA⟩ => ⟨he, RefRep.ofAppended hb hm hn hA⟩

theorem rTwice_any (n room : Nat) (ms : Mail) (F : List Nat) (i : Int) (w : World) (h : RefRep w n room ms F) (hs : Small ms) :
    Calls Try.prog 24 #[.pointer (some ⟨n, 0, none⟩), .int .i64 i] w fun e w' => e = .returned (.int .i64 (TwiceS room ms i).1) ∧ ∃ F', RefRep w' n room (TwiceS room ms i).2 F' ∧ Turned F F' w w' := by
  have h' := h
  obtain ⟨lv, vs, G, hb, hm, rfl, hn⟩ := h
  by_cases hi : i < 0 ∨ (ms.length : Int) ≤ i
  · obtain ⟨a, c, rfl⟩ := hm.form
    rw [TwiceS_out hi]
    exact (rTwice_out n i a ms.length c w (by simpa using cell_of_block hb 0) hi).mono fun e w' ⟨he, hw⟩ => by
      subst hw
      exact ⟨he, _, h', Keeps.refl _ _, fun k hk => .inl hk⟩
  · obtain ⟨j, rfl⟩ := Int.eq_ofNat_of_zero_le (show 0 ≤ i by omega)
    obtain ⟨g, cap, v, m, rfl, hv, hmj, c0, c1, ho, _, _, hg, _⟩ := hm.at j (by omega)
    have hng : n ≠ g := fun e => hn (by rw [hm.fp, e]; exact List.mem_append_left _ hg)
    rw [TwiceS_in hmj]
    unfold sendS
    by_cases hf : room ≤ ms.length
    · rw [if_pos hf]
      exact (rTwice_full n room ms.length j _ cap w (by simpa using cell_of_block hb 0) (by simpa using cell_of_block hb 1) (by omega) hf).mono fun e w' ⟨he, hk⟩ =>
        ⟨he, _, h'.keeps hk (fun _ _ h => by cases h), hk.mono (fun _ _ h => by cases h), fun k hk => .inl hk⟩
    · rw [if_neg hf]
      exact (rTwice_in n room ms.length j g cap v m.2 m.1 _ w hb c0 c1 (Reads.ofOwn ho) (hs.2 m (List.mem_of_getElem? hmj)) hm.own hng (by omega) hs.1 (by omega)).mono fun e w' ⟨he, hA⟩ => ⟨he, RefRep.ofAppended hb hm hn hA⟩

/-- Take: what is handed back reads as it lies; it is no longer the net's. -/
theorem rTake_any (n room : Nat) (ms : Mail) (F : List Nat) (i : Int) (w : World) (h : RefRep w n room ms F) (hs : Small ms) :
    Calls Try.prog 23 #[.pointer (some ⟨n, 0, none⟩), .int .i64 i] w fun e w' => ∃ a c,
      ((TakeS ms i = (none, ms) ∧ e = .returned (.tuple #[.slice none 0 0, .bool false]) ∧ w' = w) ∨ ∃ bs F', TakeS ms i = (some bs, ms.eraseIdx i.toNat) ∧ i.toNat < ms.length ∧ e = .returned (.tuple #[.slice a bs.length c, .bool true]) ∧ w'.ownsRow 0 5 1 (.slice a bs.length c) bs.length (u8s bs) ∧ (∀ b ∈ ownB (.slice a bs.length c), b ∈ F) ∧ RefRep w' n room (ms.eraseIdx i.toNat) F' ∧ Turned F F' w w') := by
  obtain ⟨lv, vs, G, hb, hm, rfl, hn⟩ := h
  have hfp := hm.fp
  by_cases hi : i < 0 ∨ (ms.length : Int) ≤ i
  · obtain ⟨a, c, rfl⟩ := hm.form
    refine (rTake_out n i a ms.length c w (by simpa using cell_of_block hb 0) hi).mono fun e w' ⟨he, hw⟩ => ?_
    exact ⟨none, 0, .inl ⟨if_pos hi, he, hw⟩⟩
  · obtain ⟨j, rfl⟩ := Int.eq_ofNat_of_zero_le (show 0 ≤ i by omega)
    obtain ⟨g, cap, v, m, rfl, hv, hmj, c0, c1, ho, f0, f1, hg, hcap, hcm⟩ := hm.at j (by omega)
    have hml := hs.1
    obtain ⟨q, hq⟩ : ∃ q, ms.length = q + 1 := ⟨ms.length - 1, by omega⟩
    have hown := hm.own
    rw [hq] at hb hown hcap
    obtain ⟨a, c, rfl⟩ := len_form ho
    refine (rTake_in n room q j g cap _ (mcells vs ms) w hb c0 hown (mcells_one w _ _ vs ms _ hm) hcap hcm (by omega) (by omega)).mono fun e w' ⟨he, a2, c2, h2, h3, h4⟩ => ?_
    have hGn : ∀ b ∈ vs.flatMap ownB, b ∉ [n] := fun b hq hb' => by
      simp at hb'
      exact hn (by rw [hfp, ← hb']; exact List.mem_append_right _ hq)
    obtain ⟨hM, hF⟩ := Msgs.taken (lv' := .slice a2 q c2) hm (show j < ms.length by omega) h4 hGn (by rw [hq]; exact ownsRow_base h3 (Nat.zero_le _)) (fun b hb => .inr (ownB_ge h3 b hb).1) (by unfold ownB; cases (Value.slice a2 q c2).ownBlock <;> simp)
    have hvm : ∀ b ∈ ownB (.slice a m.1.length c), b ∈ G := fun b hb => by rw [hfp]; exact List.mem_append_right _ (List.mem_flatMap.2 ⟨_, List.mem_of_getElem? hv, hb⟩)
    refine ⟨a, c, .inr ⟨m.1, n :: _, ?_, by simp; omega, he, ownsRow_keeps ho h4 (fun b hb hb' => ?_), fun b hb => List.mem_cons_of_mem _ (hvm b hb), ⟨_, _, _, h2, hM, rfl, fun hin => ?_⟩, ⟨h4.mono (fun k _ hk => ?_), fun k hk => ?_⟩⟩⟩
    · show TakeS ms _ = _
      unfold TakeS
      rw [if_neg hi, lookS_in hmj]
    · simp at hb'
      exact hn (hb' ▸ hvm b hb)
    · rcases hF n hin with h | h
      · exact hn h
      · have := (Array.getElem?_eq_some_iff.1 hb).1; omega
    · simp at hk; simp [hk]
    · rcases List.mem_cons.1 hk with rfl | hk
      · simp
      · exact (hF k hk).imp (List.mem_cons_of_mem _) id

/-- Another body in a place, the mark laid. -/
theorem Msgs.replaced {w w' : World} {et : TypeId} {lv bv : Value} {vs : List Value} {ms : Mail} {F : List Nat} {j g cap : Nat} {bs : List UInt8} (h : Msgs w et lv vs ms F) (hlv : lv = .slice (some ⟨g, 0, none⟩) ms.length cap) (hj : j < ms.length)
    (hb : w'.ownsRow w.heap.size 5 1 bv bs.length (u8s bs)) (ho : w'.ownsRow 0 et 2 lv ms.length (((mcells vs ms).set (j * 2) bv).set (j * 2 + 1) (.bool true))) (hk : Keeps [g] w w') :
    Msgs w' et lv (vs.set j bv) (ms.set j (bs, true)) (ownB lv ++ (vs.set j bv).flatMap ownB) ∧ ∀ k ∈ ownB lv ++ (vs.set j bv).flatMap ownB, k ∈ F ∨ w.heap.size ≤ k := by
  have hlt := h.lt
  have hnd := h.nd
  have hbge : ∀ b ∈ ownB bv, w.heap.size ≤ b := fun b hb' => (ownB_ge hb b hb').1
  rw [h.fp] at hnd hlt
  obtain ⟨n1, n2, n3⟩ := List.nodup_append.1 hnd
  have hgl : g ∈ ownB lv := by rw [hlv]; simp [mem_ownB, Value.ownBlock]
  have hset : ∀ (vs : List Value) (j : Nat), (vs.flatMap ownB).Nodup → (∀ b ∈ vs.flatMap ownB, b < w.heap.size) → ((vs.set j bv).flatMap ownB).Nodup ∧ ∀ b ∈ (vs.set j bv).flatMap ownB, b ∈ vs.flatMap ownB ∨ b ∈ ownB bv := by
    intro vs
    induction vs with
    | nil => intro j _ _; simp
    | cons v vs ih =>
      intro j hn hl
      rw [List.flatMap_cons] at hn hl
      obtain ⟨m1, m2, m3⟩ := List.nodup_append.1 hn
      cases j with
      | zero =>
        simp only [List.set_cons_zero, List.flatMap_cons]
        refine ⟨List.nodup_append.2 ⟨by unfold ownB; cases bv.ownBlock <;> simp, m2, fun a ha b hb' e => ?_⟩, fun b hb' => ?_⟩
        · have := hbge a ha; have := hl b (List.mem_append_right _ hb'); omega
        · rcases List.mem_append.1 hb' with h | h
          · exact .inr h
          · exact .inl (List.mem_append_right _ h)
      | succ j =>
        obtain ⟨i1, i2⟩ := ih j m2 (fun b hb' => hl b (List.mem_append_right _ hb'))
        simp only [List.set_cons_succ, List.flatMap_cons]
        refine ⟨List.nodup_append.2 ⟨m1, i1, fun a ha b hb' e => ?_⟩, fun b hb' => ?_⟩
        · rcases i2 b hb' with h | h
          · exact m3 a ha b h e
          · have := hbge b h; have := hl a (List.mem_append_left _ ha); omega
        · rcases List.mem_append.1 hb' with h | h
          · exact .inl (List.mem_append_left _ h)
          · exact (i2 b h).imp (List.mem_append_right _) id
  obtain ⟨s1, s2⟩ := hset vs j n2 (fun b hb' => hlt b (List.mem_append_right _ hb'))
  have hmc : ∀ (vs : List Value) (ms : Mail) (j : Nat), vs.length = ms.length → j < ms.length → mcells (vs.set j bv) (ms.set j (bs, true)) = ((mcells vs ms).set (j * 2) bv).set (j * 2 + 1) (.bool true) := by
    intro vs
    induction vs with
    | nil => intro ms j h hj; simp at h; omega
    | cons v vs ih =>
      intro ms j h hj
      cases ms with
      | nil => simp at h
      | cons m ms =>
        cases j with
        | zero => rfl
        | succ j =>
          simp only [List.length_cons] at h hj
          simp only [List.set_cons_succ, mcells, ih ms j (by omega) (by omega), show (j + 1) * 2 = j * 2 + 1 + 1 by omega]
  refine ⟨⟨by simp [h.len], ?_, fun i v m hv hm => ?_, rfl, List.nodup_append.2 ⟨n1, s1, fun a ha b hb' e => ?_⟩⟩, fun k hk' => ?_⟩
  · rw [List.length_set, hmc _ _ _ h.len hj]; exact ho
  · by_cases hij : j = i
    · subst hij
      rw [List.getElem?_set_self (by rw [h.len]; exact hj)] at hv
      rw [List.getElem?_set_self hj] at hm
      cases hv; cases hm
      exact ownsRow_base hb (Nat.zero_le _)
    · rw [List.getElem?_set_ne hij] at hv hm
      exact ownsRow_keeps (h.body i v m hv hm) hk (fun b hb' e => by
        simp at e
        subst e
        exact n3 b hgl b (List.mem_flatMap.2 ⟨v, List.mem_of_getElem? hv, hb'⟩) rfl)
  · rcases s2 b hb' with h' | h'
    · exact n3 a ha b h' e
    · have := hbge b h'; have := hlt a (List.mem_append_left _ ha); omega
  · rw [h.fp]
    rcases List.mem_append.1 hk' with h' | h'
    · exact .inl (List.mem_append_left _ h')
    · exact (s2 k h').imp (List.mem_append_right _) (hbge k)

theorem rSpoil_any (n room : Nat) (ms : Mail) (F : List Nat) (i at_ by_ : Int) (w : World) (h : RefRep w n room ms F) (hs : Small ms) (hne : ∀ m ∈ ms, m.1 ≠ []) :
    Calls Try.prog 25 #[.pointer (some ⟨n, 0, none⟩), .int .i64 i, .int .i64 at_, .int .i64 by_] w fun e w' => e = .returned (.bool (SpoilS ms i at_ by_).1) ∧ ∃ F', RefRep w' n room (SpoilS ms i at_ by_).2 F' ∧ Turned F F' w w' := by
  have h' := h
  obtain ⟨lv, vs, G, hb, hm, rfl, hn⟩ := h
  unfold SpoilS
  by_cases hi : i < 0 ∨ (ms.length : Int) ≤ i
  · obtain ⟨a, c, rfl⟩ := hm.form
    rw [if_pos hi]
    exact (rSpoil_out n i at_ by_ a ms.length c w (by simpa using cell_of_block hb 0) hi).mono fun e w' ⟨he, hw⟩ => by
      subst hw
      exact ⟨he, _, h', Keeps.refl _ _, fun k hk => .inl hk⟩
  · rw [if_neg hi]
    obtain ⟨j, rfl⟩ := Int.eq_ofNat_of_zero_le (show 0 ≤ i by omega)
    obtain ⟨g, cap, v, m, hlv, hv, hmj, c0, c1, ho, f0, f1, hg, _⟩ := hm.at j (by omega)
    have hng : n ≠ g := fun e => hn (by rw [hm.fp, e]; exact List.mem_append_left _ hg)
    have c : w.cell? ⟨n, 0, none⟩ = some lv := by simpa using cell_of_block hb 0
    rw [hlv] at c
    simp only [Int.toNat_natCast, hmj]
    by_cases hsp : m.2 = true
    · rw [if_pos (.inl hsp)]
      rw [hsp] at c1
      exact (rSpoil_was n j g ms.length cap at_ by_ w c (by omega) c1).mono fun e w' ⟨he, hw⟩ => by
        subst hw
        exact ⟨he, _, h', Keeps.refl _ _, fun k hk => .inl hk⟩
    · have hsp' : m.2 = false := by simpa using hsp
      rw [hsp'] at c1
      by_cases hz : by_ % 256 = 0
      · rw [if_pos (.inr hz)]
        exact (rSpoil_zero n j g ms.length cap at_ by_ w c (by omega) c1 (by rw [and255, hz]; rfl)).mono fun e w' ⟨he, hw⟩ => by
          subst hw
          exact ⟨he, _, h', Keeps.refl _ _, fun k hk => .inl hk⟩
      · rw [if_neg (by rintro (h1 | h1); exact hsp h1; exact hz h1)]
        have hmem := List.mem_of_getElem? hmj
        have hpos : 0 < m.1.length := List.length_pos_iff.2 (hne m hmem)
        obtain ⟨p0, p1⟩ := placeOf_bd at_ m.1.length (by omega)
        obtain ⟨kk, hkk⟩ := Int.eq_ofNat_of_zero_le p0
        have hklt : kk < m.1.length := by omega
        have hsb : spoilB m.1 at_ by_ = m.1.set kk (m.1[kk] ^^^ byteOf by_) := by
          unfold spoilB
          rw [hkk]
          simp only [Int.toNat_natCast, List.getD_eq_getElem?_getD, List.getElem?_eq_getElem hklt, Option.getD_some]
        have hown := hm.own
        rw [hlv] at hown
        refine (rSpoil_do n j g ms.length cap at_ by_ v m.1 (mcells vs ms) w c (by omega) hown c0 c1 (Reads.ofOwn ho) (hs.2 m hmem) kk hklt (by rw [← hkk]; exact placeOf_tmod _ _) hng (by rw [and255]; simpa using hz)).mono fun e w' ⟨he, bv, h1, h2, h3⟩ => ?_
        obtain ⟨hM, hF⟩ := hm.replaced (j := j) (bs := m.1.set kk (m.1[kk] ^^^ byteOf by_)) hlv (by omega) (by simpa using h1) (by rw [hlv]; exact h2) h3
        refine ⟨he, n :: _, ⟨lv, _, _, (h3.block n (Array.getElem?_eq_some_iff.1 hb).1 (by simp [hng])).trans hb, by rw [hsb]; exact hM, rfl, fun hin => ?_⟩, h3.mono (fun x _ hx => ?_), fun x hx => ?_⟩
        · rcases hF n hin with h | h
          · exact hn h
          · have := (Array.getElem?_eq_some_iff.1 hb).1; omega
        · simp at hx
          subst hx
          exact List.mem_cons_of_mem _ (by rw [hm.fp]; exact List.mem_append_left _ hg)
        · rcases List.mem_cons.1 hx with rfl | hx
          · simp
          · exact (hF x hx).imp (List.mem_cons_of_mem _) id

/-- The room of a net. -/
def roomOf (room : Int) : Nat := (max 0 (min room 512)).toNat

theorem roomOf_int (room : Int) : (roomOf room : Int) = max 0 (min room 512) := by unfold roomOf; omega

theorem netRep_new (w : World) (x room : Int) (h : x = max 0 (min room 512)) : NetRep (w.alloc (.cells #[.int .i64 x, .slice none 0 0] 49)) w.heap.size (roomOf room) [] [w.heap.size] :=
  ⟨.slice none 0 0, [], [], by rw [roomOf_int, ← h]; exact heap_alloc_new w _, ⟨rfl, World.ownsRow_nil _ _ _ _, fun i v m h => by simp at h, rfl, List.nodup_nil⟩, rfl, by simp⟩
theorem refRep_new (w : World) (x room : Int) (h : x = max 0 (min room 512)) : RefRep (w.alloc (.cells #[.slice none 0 0, .int .i64 x] 57)) w.heap.size (roomOf room) [] [w.heap.size] :=
  ⟨.slice none 0 0, [], [], by rw [roomOf_int, ← h]; exact heap_alloc_new w _, ⟨rfl, World.ownsRow_nil _ _ _ _, fun i v m h => by simp at h, rfl, List.nodup_nil⟩, rfl, by simp⟩

set_option maxHeartbeats 400000 in
theorem netNew_any (room : Int) (w : World) :
    Calls Try.prog 8 #[.int .i64 room] w fun e w' => e = .returned (.pointer (some ⟨w.heap.size, 0, none⟩)) ∧ NetRep w' w.heap.size (roomOf room) [] [w.heap.size] ∧ Keeps [] w w' := by
  go_enter Try.func8, Try.ntmps8
  go_wp2
  all_goals
    go_ret
    exact ⟨rfl, netRep_new w _ room (by omega), (Keeps.refl _ _).alloc _⟩

set_option maxHeartbeats 400000 in
theorem rnetNew_any (room : Int) (w : World) :
    Calls Try.prog 16 #[.int .i64 room] w fun e w' => e = .returned (.pointer (some ⟨w.heap.size, 0, none⟩)) ∧ RefRep w' w.heap.size (roomOf room) [] [w.heap.size] ∧ Keeps [] w w' := by
  go_enter Try.func16, Try.ntmps16
  go_wp2
  all_goals
    go_ret
    exact ⟨rfl, refRep_new w _ room (by omega), (Keeps.refl _ _).alloc _⟩

end Go.Proofs.Ythgdknhocjlphaa
