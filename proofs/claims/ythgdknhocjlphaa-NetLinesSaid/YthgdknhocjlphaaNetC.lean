/- What a net's memory holds, told by a list; the small calls Look, New, Send. -/
import Derived.Test.YthgdknhocjlphaaNetB
namespace Go.Proofs.Ythgdknhocjlphaa
open Go Go.RowKit

abbrev Mail := List (List UInt8 × Bool)

def mcells : List Value → Mail → List Value
  | v :: vs, m :: ms => v :: .bool m.2 :: mcells vs ms
  | _, _ => []

theorem mcells_length : ∀ (vs : List Value) (ms : Mail), vs.length = ms.length → (mcells vs ms).length = ms.length * 2
  | [], [], _ => rfl
  | v :: vs, m :: ms, h => by simp only [List.length_cons] at h; simp only [mcells, List.length_cons, mcells_length vs ms (by omega)]; omega
  | [], m :: ms, h => by simp at h
  | v :: vs, [], h => by simp at h
theorem mcells_snoc : ∀ (vs : List Value) (ms : Mail) (v : Value) (m : List UInt8 × Bool), vs.length = ms.length → mcells (vs ++ [v]) (ms ++ [m]) = mcells vs ms ++ [v, .bool m.2]
  | [], [], _, _, _ => rfl
  | v' :: vs, m' :: ms, v, m, h => by simp only [List.length_cons] at h; simp only [List.cons_append, mcells, mcells_snoc vs ms v m (by omega)]
  | [], m :: ms, _, _, h => by simp at h
  | v :: vs, [], _, _, h => by simp at h
theorem mcells_get : ∀ (vs : List Value) (ms : Mail) (i : Nat) (v : Value) (m : List UInt8 × Bool), vs[i]? = some v → ms[i]? = some m → (mcells vs ms)[i * 2]? = some v ∧ (mcells vs ms)[i * 2 + 1]? = some (.bool m.2)
  | [], _, i, v, m, h, _ => by simp at h
  | _ :: _, [], i, v, m, _, h => by simp at h
  | v' :: vs, m' :: ms, 0, v, m, h, g => by simp at h g; subst h; subst g; exact ⟨rfl, rfl⟩
  | v' :: vs, m' :: ms, i + 1, v, m, h, g => by
    have := mcells_get vs ms i v m (by simpa using h) (by simpa using g)
    simp only [mcells, show (i + 1) * 2 = i * 2 + 1 + 1 by omega, List.getElem?_cons_succ]
    exact this

structure Msgs (w : World) (et : TypeId) (lv : Value) (vs : List Value) (ms : Mail) (F : List Nat) : Prop where
  len : vs.length = ms.length
  own : w.ownsRow 0 et 2 lv ms.length (mcells vs ms)
  body : ∀ (i : Nat) (v : Value) (m : List UInt8 × Bool), vs[i]? = some v → ms[i]? = some m → w.ownsRow 0 5 1 v m.1.length (u8s m.1)
  fp : F = ownB lv ++ vs.flatMap ownB
  nd : F.Nodup

theorem Msgs.lt {w : World} {et : TypeId} {lv : Value} {vs : List Value} {ms : Mail} {F : List Nat} (h : Msgs w et lv vs ms F) : ∀ k ∈ F, k < w.heap.size := by
  intro k hk
  rw [h.fp, List.mem_append] at hk
  rcases hk with hk | hk
  · exact (ownB_ge h.own k hk).2
  · obtain ⟨v, hv, hk⟩ := List.mem_flatMap.1 hk
    obtain ⟨i, hi, rfl⟩ := List.mem_iff_getElem.1 hv
    exact (ownB_ge (h.body i _ _ (List.getElem?_eq_getElem hi) (List.getElem?_eq_getElem (by rw [← h.len]; exact hi))) k hk).2

theorem Msgs.keeps {w w' : World} {et : TypeId} {lv : Value} {vs : List Value} {ms : Mail} {F G : List Nat} (h : Msgs w et lv vs ms F) (k : Keeps G w w') (hd : ∀ b ∈ F, b ∉ G) : Msgs w' et lv vs ms F := by
  refine ⟨h.len, ownsRow_keeps h.own k (fun b hb => hd b (by rw [h.fp]; exact List.mem_append_left _ hb)), fun i v m hv hm => ownsRow_keeps (h.body i v m hv hm) k (fun b hb => hd b ?_), h.fp, h.nd⟩
  rw [h.fp]
  exact List.mem_append_right _ (List.mem_flatMap.2 ⟨v, List.mem_of_getElem? hv, hb⟩)

/-- A net: its block n, its room, its messages, all its blocks. -/
def NetRep (w : World) (n room : Nat) (ms : Mail) (F : List Nat) : Prop :=
  ∃ lv vs G, w.heap[n]? = some (.cells #[.int .i64 room, lv] 49 (0, 0)) ∧ Msgs w 52 lv vs ms G ∧ F = n :: G ∧ n ∉ G
/-- The document's net. -/
def RefRep (w : World) (n room : Nat) (ms : Mail) (F : List Nat) : Prop :=
  ∃ lv vs G, w.heap[n]? = some (.cells #[lv, .int .i64 room] 57 (0, 0)) ∧ Msgs w 59 lv vs ms G ∧ F = n :: G ∧ n ∉ G

theorem NetRep.lt {w : World} {n room : Nat} {ms : Mail} {F : List Nat} (h : NetRep w n room ms F) : ∀ k ∈ F, k < w.heap.size := by
  obtain ⟨lv, vs, G, hb, hm, rfl, hn⟩ := h
  intro k hk
  rcases List.mem_cons.1 hk with rfl | hk
  · exact (Array.getElem?_eq_some_iff.1 hb).1
  · exact hm.lt k hk
theorem RefRep.lt {w : World} {n room : Nat} {ms : Mail} {F : List Nat} (h : RefRep w n room ms F) : ∀ k ∈ F, k < w.heap.size := by
  obtain ⟨lv, vs, G, hb, hm, rfl, hn⟩ := h
  intro k hk
  rcases List.mem_cons.1 hk with rfl | hk
  · exact (Array.getElem?_eq_some_iff.1 hb).1
  · exact hm.lt k hk
theorem NetRep.keeps {w w' : World} {n room : Nat} {ms : Mail} {F G : List Nat} (h : NetRep w n room ms F) (k : Keeps G w w') (hd : ∀ b ∈ F, b ∉ G) : NetRep w' n room ms F := by
  have hl := h.lt
  obtain ⟨lv, vs, G', hb, hm, rfl, hn⟩ := h
  exact ⟨lv, vs, G', (k.block n (hl n (by simp)) (hd n (by simp))).trans hb, hm.keeps k (fun b hb => hd b (List.mem_cons_of_mem _ hb)), rfl, hn⟩
theorem RefRep.keeps {w w' : World} {n room : Nat} {ms : Mail} {F G : List Nat} (h : RefRep w n room ms F) (k : Keeps G w w') (hd : ∀ b ∈ F, b ∉ G) : RefRep w' n room ms F := by
  have hl := h.lt
  obtain ⟨lv, vs, G', hb, hm, rfl, hn⟩ := h
  exact ⟨lv, vs, G', (k.block n (hl n (by simp)) (hd n (by simp))).trans hb, hm.keeps k (fun b hb => hd b (List.mem_cons_of_mem _ hb)), rfl, hn⟩

/-- What a call leaves: only F has been touched; what F' has besides is new. -/
def Turned (F F' : List Nat) (w w' : World) : Prop := Keeps F w w' ∧ ∀ k ∈ F', k ∈ F ∨ w.heap.size ≤ k

/-- A message more. -/
theorem Msgs.snoc {w w' : World} {et : TypeId} {lv lv' v : Value} {vs : List Value} {ms : Mail} {F G : List Nat} {bs : List UInt8} {s : Bool} (h : Msgs w et lv vs ms F) (hk : Keeps G w w') (hG : ∀ b ∈ vs.flatMap ownB, b ∉ G)
    (ho : w'.ownsRow 0 et 2 lv' (ms.length + 1) (mcells vs ms ++ [v, .bool s])) (hv : w'.ownsRow w.heap.size 5 1 v bs.length (u8s bs)) (hat : ∀ b ∈ ownB lv', b ∈ ownB lv ∨ w.heap.size ≤ b) (hne : ∀ b ∈ ownB lv', b ∉ ownB v) :
    Msgs w' et lv' (vs ++ [v]) (ms ++ [(bs, s)]) (ownB lv' ++ (vs ++ [v]).flatMap ownB) ∧ ∀ k ∈ ownB lv' ++ (vs ++ [v]).flatMap ownB, k ∈ F ∨ w.heap.size ≤ k := by
  have hvge : ∀ b ∈ ownB v, w.heap.size ≤ b := fun b hb => (ownB_ge hv b hb).1
  have hlt := h.lt
  have hnd := h.nd
  rw [h.fp] at hnd hlt
  obtain ⟨n1, n2, n3⟩ := List.nodup_append.1 hnd
  refine ⟨⟨by simp [h.len], ?_, fun i u m hu hm => ?_, rfl, ?_⟩, fun k hk => ?_⟩
  · rw [List.length_append, List.length_singleton, mcells_snoc _ _ _ _ h.len]; exact ho
  · rcases Nat.lt_or_ge i vs.length with hi | hi
    · rw [List.getElem?_append_left hi] at hu
      rw [List.getElem?_append_left (by rw [← h.len]; exact hi)] at hm
      exact ownsRow_keeps (h.body i u m hu hm) hk (fun b hb => hG b (List.mem_flatMap.2 ⟨u, List.mem_of_getElem? hu, hb⟩))
    · have hi0 : i = vs.length := by
        have := (List.getElem?_eq_some_iff.1 hu).1
        simp at this; omega
      subst hi0
      simp at hu
      rw [h.len] at hm
      simp at hm
      subst hu; subst hm
      exact ownsRow_base hv (Nat.zero_le _)
  · rw [List.flatMap_append, ← List.append_assoc]
    simp only [List.flatMap_cons, List.flatMap_nil, List.append_nil]
    refine List.nodup_append.2 ⟨List.nodup_append.2 ⟨?_, n2, fun a ha b hb => ?_⟩, ?_, fun a ha b hb => ?_⟩
    · unfold ownB; cases lv'.ownBlock <;> simp
    · rintro rfl
      rcases hat a ha with h1 | h1
      · exact n3 a h1 a hb rfl
      · have := hlt a (List.mem_append_right _ hb); omega
    · unfold ownB; cases v.ownBlock <;> simp
    · rintro rfl
      rcases List.mem_append.1 ha with h1 | h1
      · exact hne a h1 hb
      · have := hlt a (List.mem_append_right _ h1); have := hvge a hb; omega
  · rw [List.flatMap_append] at hk
    simp only [List.flatMap_cons, List.flatMap_nil, List.append_nil, List.mem_append] at hk
    rw [h.fp]
    rcases hk with hk | hk | hk
    · exact (hat k hk).imp (List.mem_append_left _) id
    · exact .inl (List.mem_append_right _ hk)
    · exact .inr (hvge k hk)

/-- What send answers, what it leaves. -/
def sendS (room : Nat) (ms : Mail) (m : List UInt8 × Bool) : Int × Mail := if room ≤ ms.length then (2, ms) else (0, ms ++ [m])

theorem send_any (n room : Nat) (ms : Mail) (F : List Nat) (bv : Value) (s : Bool) (bs : List UInt8) (w : World) (h : NetRep w n room ms F) (hr : Reads w 1 bv bs.length (u8s bs)) (hbs : bs.length ≤ 140737488355328)
    (hbv : ∀ b, b ∈ ownB bv → b < w.heap.size) (hk : ms.length ≤ 100000) :
    Calls Try.prog 20 #[.pointer (some ⟨n, 0, none⟩), .agg #[bv, .bool s]] w fun e w' => e = .returned (.int .i64 (sendS room ms (bs, s)).1) ∧ ∃ F', NetRep w' n room (sendS room ms (bs, s)).2 F' ∧ Turned F F' w w' := by
  obtain ⟨lv, vs, G, hb, hm, rfl, hn⟩ := h
  have hfp := hm.fp
  have hnl : n ∉ ownB lv := fun h => hn (by rw [hfp]; exact List.mem_append_left _ h)
  by_cases hf : room ≤ ms.length
  · refine (send_full n room ms.length lv (.agg #[bv, .bool s]) _ w hb ⟨_, _, rfl⟩ hm.own hf).mono fun e w' ⟨he, hk⟩ => ?_
    have hs : sendS room ms (bs, s) = (2, ms) := if_pos hf
    rw [hs]
    exact ⟨he, n :: G, NetRep.keeps ⟨lv, vs, G, hb, hm, rfl, hn⟩ hk (fun _ _ h => by cases h), hk.mono (fun _ _ h => by cases h), fun k hk => .inl hk⟩
  · refine (send_room n room ms.length lv bv s bs _ w hb hr hbs hbv hm.own hnl (by omega) hk).mono fun e w' ⟨he, g, cap, bv', h1, h2, h3, h4, h5, h6⟩ => ?_
    have hs : sendS room ms (bs, s) = (0, ms ++ [(bs, s)]) := if_neg hf
    rw [hs]
    obtain ⟨hM, hF⟩ := Msgs.snoc (lv' := .slice (some ⟨g, 0, none⟩) (ms.length + 1) cap) hm h4 (fun b hq hb' => by
      have hnd := hm.nd
      rw [hfp] at hnd
      rcases List.mem_cons.1 hb' with e | hb'
      · exact hn (by rw [hfp, ← e]; exact List.mem_append_right _ hq)
      · exact (List.nodup_append.1 hnd).2.2 b hb' b hq rfl) h2 h3 (fun b hb => by
        have e := mem_ownB.1 hb
        simp [Value.ownBlock] at e
        subst e
        exact h5.imp mem_ownB.2 id) (fun b hb => by
        have e := mem_ownB.1 hb
        simp [Value.ownBlock] at e
        subst e
        exact h6)
    refine ⟨he, _, ⟨_, _, _, h1, hM, rfl, fun hin => ?_⟩, h4.mono (fun k _ hk => ?_), fun k hk => ?_⟩
    · rcases hF n hin with h | h
      · exact hn h
      · have := (Array.getElem?_eq_some_iff.1 hb).1; omega
    · rcases List.mem_cons.1 hk with rfl | hk
      · simp
      · exact List.mem_cons_of_mem _ (by rw [hfp]; exact List.mem_append_left _ hk)
    · rcases List.mem_cons.1 hk with rfl | hk
      · simp
      · exact (hF k hk).imp (List.mem_cons_of_mem _) id

end Go.Proofs.Ythgdknhocjlphaa
