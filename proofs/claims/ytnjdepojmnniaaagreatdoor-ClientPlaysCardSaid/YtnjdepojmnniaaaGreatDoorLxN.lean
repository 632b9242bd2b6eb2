/- The program's Lex. -/
import Derived.Test.YtnjdepojmnniaaaGreatDoorQ11
import Derived.WalkMore

set_option linter.unusedSimpArgs false
set_option linter.unusedVariables false
namespace Go.Proofs.YtnjdepojmnniaaaGreatDoor
open Go Go.RowKit

def tokL : Lay TokD where
  size := 4
  pos := by decide
  at_ _ _ cs t := cs = tokC t
  len := fun e => by rw [e]; rfl
  one := fun e u hu => by
    rw [e] at hu
    simp [tokC] at hu
    rcases hu with rfl | rfl | rfl | rfl <;> rfl
  keep := fun e _ _ => e
  mono := fun e _ => e
theorem Tryz.infoTok : (Tryz.prog.info? 93).map (fun i => (i.zero, i.size, i.bytes)) = some (some (.agg #[.int .i64 0, .string ⟨#[]⟩, .int .i64 0, .int .i64 0]), 4, 40) := by kernel_rfl
/-- What a text's tokens are, the place of the first wrong one, how it ends. -/
def lexR (L : List UInt8) : List TokD × Nat × Nat :=
  if 400 < L.length then ([], 400, 7) else match lexL L 0 with
    | .error p => ([], p, 5)
    | .ok ts => (ts, 0, 0)
def LexPost (L : List UInt8) (w : World) (e : Ending) (w' : World) : Prop :=
  ∃ v, e = .returned (.tuple #[v, .int .i64 (lexR L).2.1, .int .i64 (lexR L).2.2]) ∧ ListAt tokL w' (fun b => w.heap.size ≤ b) v (lexR L).1 ∧ Keeps [] w w'

set_option maxRecDepth 100000 in
set_option maxHeartbeats 8000000 in
theorem lxLex_any (s : ByteArray) (w : World) (hT : Tabs w) (hE : Errs w) (hs : s.size ≤ 1000000) :
    Calls Tryz.prog 59 #[.string s] w (LexPost s.data.toList w) := by
  have hl : s.data.toList.length = s.size := Array.length_toList
  by_cases hbig : 400 < s.size
  · have hI : 400 < (s.size : Int) := by omega
    have HR : Hid (lexR s.data.toList = ([], 400, 7)) := by
      show lexR _ = _
      unfold lexR
      rw [if_pos (by rw [hl]; exact hbig)]
    clear hl hbig
    go_enter Tryz.func59, Tryz.ntmps59
    go_wp2_with fail
    go_step3
    go_wp2_with fail
    rw [Exit.noGoto_ret]
    refine bodyPost_ret (v := .tuple #[.slice none 0 0, .int .i64 400, .int .i64 7]) (by simp [results, Tryz.results59, go_sem]) rfl ?_
    exact ⟨_, by rw [HR.out]; rfl, by rw [HR.out]; exact ListAt.nil _ _ _ _, Keeps.refl [] w⟩
  · have hI : (s.size : Int) ≤ 400 := by omega
    have HR : Hid (lexR s.data.toList = match lexL s.data.toList 0 with
        | .error p => ([], p, 5)
        | .ok ts => (ts, 0, 0)) := by
      show lexR _ = _
      unfold lexR
      rw [if_neg (by rw [hl]; exact hbig)]
    obtain ⟨it, hi0, hz0, hz1, hz2⟩ := info_parts Tryz.infoTok
    have HL := hid hl
    have HT := hid hT
    have HE := hid hE
    have hs4 : s.size ≤ 400 := by omega
    clear hl hbig hT hE
    go_enter Tryz.func59, Tryz.ntmps59
    go_wp2_with fail
    go_step3
    go_wp2_with fail
    go_step3
    go_wp2_with fail
    go_loopw [5, 6] (fun v en wr => ∃ (ts : List TokD) (pos e k : Nat) (a : Option Addr) (q : Nat), pos ≤ s.size ∧ k ≤ pos ∧ e ≤ s.size ∧ v = .slice a k q ∧ en = .int .i64 e ∧ w.heap.size < wr.heap.size ∧ Hid (ts.length = k ∧ LexAt s.data.toList ts pos e ∧ OwnAt tokL 93 wr (w.heap.size + 1) (fun b => w.heap.size ≤ b ∧ b ∉ ownB (.slice a k q)) (.slice a k q) ts ∧ wr.heap[w.heap.size]? = some (.stringIter s pos) ∧ Keeps [] w wr)) (fun _ _ wr => s.size - wr.iterPos w.heap.size)
    case atStart => exact ⟨[], 0, 0, 0, none, 0, Nat.zero_le _, Nat.le_refl _, Nat.zero_le _, rfl, rfl, by simp [World.iter], rfl, LexAt.zero _, OwnAt.nil _ _ _ _, World.iter_heap w s 0, (Keeps.refl [] w).alloc _⟩
    case round =>
      obtain ⟨ts, pos, e, k, a, q, hps, hkp, hes, rfl, rfl, hsz, HW⟩ := hrel
      have hit := HW.out.2.2.2.1
      by_cases hp : pos < s.size
      · obtain ⟨n, hn⟩ : ∃ n, (Utf8.decode s pos).2 = n := ⟨_, rfl⟩
        obtain ⟨r, hr⟩ : ∃ r, (Utf8.decode s pos).1 = r := ⟨_, rfl⟩
        obtain ⟨wi, hwi⟩ : ∃ wi, wr.iterAt w.heap.size s (pos + n) = wi := ⟨_, rfl⟩
        have hnx : ∀ ty, (Instr.next (.pointer (some ⟨w.heap.size, 0, none⟩)) true ty).run Tryz.prog wr = _ := fun ty => Lib.run_next_any_at wr w.heap.size s pos ty hit hp
        have hit2 := Lib.iterAt_heap wr w.heap.size s pos (pos + n) hit
        have hkw : Keeps [w.heap.size] wr wi := by
          rw [← hwi]
          exact ⟨rfl, rfl, rfl, by rw [Lib.iterAt_size]; exact Nat.le_refl _, fun i _ hi => Lib.iterAt_other wr w.heap.size i s (pos + n) (by simpa using hi)⟩
        have hszi : wi.heap.size = wr.heap.size := by rw [← hwi, Lib.iterAt_size]
        have hr1 : r ≤ 1114111 := by rw [← hr]; exact Lib.rune_le s pos
        have hn1 : 1 ≤ n := by rw [← hn]; exact Lib.width_pos s pos
        have hpl : pos < s.data.toList.length := by rw [HL.out]; exact hp
        have hne : s.data.toList.drop pos ≠ [] := by simp; omega
        have hn2 : pos + n ≤ s.size := by
          have := wid_le hne
          rw [(clsL_drop s pos).2, hn, List.length_drop, HL.out] at this
          omega
        have HC := hid ((clsL_drop s pos).1)
        have HN := hid ((clsL_drop s pos).2)
        rw [hr] at HC
        rw [hn] at HN
        rw [hwi] at hit2
        simp only [hn, hr, hwi] at hnx
        have HT2 := hid hit2
        have HKW := hid hkw
        have HNE := hid hne
        have HPL := hid hpl
        have hzi : w.heap.size < wi.heap.size := by omega
        have HX : Hid (∀ ty, (Instr.next (.pointer (some ⟨w.heap.size, 0, none⟩)) true ty).run Tryz.prog wr = _) := hnx
        clear hit hit2 hkw hwi hn hr hnx hszi hne hpl
        have hnx := HX.out
        go_wp2_with fail
        refine (ruClass_any r _ hr1).mono ?_
        rintro e' w4 ⟨rfl, hk⟩
        obtain ⟨c, hc⟩ : ∃ c, clsR r = c := ⟨_, rfl⟩
        rw [hc] at HC ⊢
        have hc3 : c ≤ 3 := by
          rw [← hc]
          unfold clsR
          repeat' split
          all_goals decide
        have K4 : Hid (Keeps [w.heap.size] wr w4) := HKW.out.trans hk (fun _ _ h => by cases h)
        have HI : Hid (w4.heap[w.heap.size]? = some (.stringIter s (pos + n))) := (hk.block _ hzi (by simp)).trans HT2.out
        have hz4 : w.heap.size < w4.heap.size := Nat.lt_of_lt_of_le hzi hk.size
        have HOB : Hid (∀ b ∈ ownB (.slice a k q), w.heap.size + 1 ≤ b ∧ b < wr.heap.size) := fun b hb => OwnAt.ge HW.out.2.2.1 b hb
        have HOW : Hid (OwnAt tokL 93 w4 (w.heap.size + 1) (fun b => w.heap.size ≤ b ∧ b ∉ ownB (.slice a k q)) (.slice a k q) ts) := by
          obtain ⟨css, g1, g2⟩ := HW.out.2.2.1
          exact ⟨css, ⟨g1.1, fun i cs x h1 h2 => g1.2 i cs x h1 h2⟩, ownsRow_keeps g2 K4.out (fun b hb hb' => by have := (HOB.out b hb).1; simp at hb'; omega)⟩
        have KW4 : Hid (Keeps [] w w4) := HW.out.2.2.2.2.trans K4.out (fun b h1 h2 => by simp at h2; omega)
        have HLX := hid HW.out.2.1
        have HTL := hid HW.out.1
        clear hk hnx hc
        have i0 : (0 : Int) ≤ (pos : Int) := Int.natCast_nonneg _
        have i1 : (pos : Int) ≤ (s.size : Int) := by omega
        by_cases hpe : pos < e
        · have d1 : (pos : Int) < (e : Int) := by omega
          have HZ : Hid (LexAt s.data.toList ts (pos + n) e) := by
            have := HLX.out.skip HPL.out hpe
            rw [HN.out] at this
            exact this
          clear hpe
          go_wp2_with fail
          go_roundw
          case rel => exact ⟨ts, pos + n, e, k, a, q, hn2, by omega, hes, rfl, rfl, hz4, HTL.out, HZ.out, HOW.out, HI.out, KW4.out⟩
          case measure =>
            simp only [World.iterPos, HI.out, HW.out.2.2.2.1]
            omega
        · have d1 : (e : Int) ≤ (pos : Int) := by omega
          by_cases hc : c = 3
          · have d2 : ((c : Int) == 3) = true := by simp [hc]
            have HZ : Hid (LexAt s.data.toList ts (pos + n) e) := by
              have := HLX.out.space HPL.out hpe (HC.out.trans hc)
              rw [HN.out] at this
              exact this
            clear hpe hc
            go_wp2_with fail
            go_roundw
            case rel => exact ⟨ts, pos + n, e, k, a, q, hn2, by omega, hes, rfl, rfl, hz4, HTL.out, HZ.out, HOW.out, HI.out, KW4.out⟩
            case measure =>
              simp only [World.iterPos, HI.out, HW.out.2.2.2.1]
              omega
          · have d2 : ((c : Int) == 3) = false := by simp; omega
            obtain ⟨m, hm⟩ : ∃ m, s.extract pos s.size = m := ⟨_, rfl⟩
            have hml : m.data.toList = s.data.toList.drop pos := by
              have := extract_str s pos (s.size - pos)
              rw [show pos + (s.size - pos) = s.size by omega, hm] at this
              rw [this]
              exact List.take_of_length_le (by rw [List.length_drop, HL.out]; exact Nat.le_refl _)
            have hmz : m.size = s.size - pos := by rw [← hm, ByteArray.size_extract]; omega
            have HONE := hid (fun w1 hT1 hE1 => lxOne_any m c w1 hT1 hE1 (by omega) (by omega) (by rw [hml]; exact HC.out))
            rw [hml] at HONE
            have HBAD : Hid (oneD (s.data.toList.drop pos) = none → lexL s.data.toList 0 = .error pos) := fun h => HLX.out.bad HPL.out hpe (by rw [HC.out]; exact hc) h
            have HTOK : Hid (∀ t k', oneD (s.data.toList.drop pos) = some (t, k') → LexAt s.data.toList (ts ++ [{ t with at_ := pos }]) (pos + n) (pos + k') ∧ 1 ≤ k' ∧ pos + k' ≤ s.size) := fun t k' h => by
              have h1 := HLX.out.tok HPL.out hpe (by rw [HC.out]; exact hc) h
              rw [HN.out] at h1
              have h2 := oneD_pos HNE.out h
              rw [List.length_drop, HL.out] at h2
              exact ⟨h1, h2.1, by omega⟩
            clear hpe hc hml hmz
            go_wp2_with fail
            refine (HONE.out _ (HT.out.k KW4.out) (HE.out.k KW4.out)).mono ?_
            rintro e' w5 ⟨rfl, hk5⟩
            have K5 := hid hk5
            have z5 : w.heap.size < w5.heap.size := Nat.lt_of_lt_of_le hz4 hk5.size
            clear hk5
            rcases ho : oneD (s.data.toList.drop pos) with _ | ⟨t, k'⟩
            · have HX2 := hid (HBAD.out ho)
              clear ho
              unfold oneV
              dsimp only
              go_wp2_with fail
              rw [Exit.noGoto_ret]
              refine bodyPost_ret (v := .tuple #[.slice none 0 0, .int .i64 pos, .int .i64 5]) (by simp [results, Tryz.results59, go_sem]) rfl ?_
              have hr2 := HR.out
              rw [HX2.out] at hr2
              exact ⟨_, by rw [hr2]; rfl, by rw [hr2]; exact ListAt.nil _ _ _ _, (KW4.out.trans K5.out (fun _ _ h => h)).trans (G := []) (by exact Keeps.K) (fun _ _ h => h)⟩
            · obtain ⟨hlx, hk1, hk2⟩ := HTOK.out t k' ho
              have HLX2 := hid hlx
              have d3 : ((k' : Int) == 0) = false := by simp; omega
              have j0 : (0 : Int) ≤ (k' : Int) := Int.natCast_nonneg _
              have j1 : (pos : Int) + (k' : Int) ≤ 400 := by omega
              have HRW : Hid (((w5.alloc (.cells #[.int .i64 t.kind, .string (str t.s), .int .i64 t.n, .int .i64 pos] 93)).alloc (.cells #[.int .i64 t.kind, .string (str t.s), .int .i64 t.n, .int .i64 pos] 93)).heap[w5.heap.size + 1]? = some (.cells #[.int .i64 t.kind, .string (str t.s), .int .i64 t.n, .int .i64 pos] 93 (0, 0))) := by
                have h1 := heap_alloc_new (w5.alloc (.cells #[.int .i64 t.kind, .string (str t.s), .int .i64 t.n, .int .i64 pos] 93)) (.cells #[.int .i64 t.kind, .string (str t.s), .int .i64 t.n, .int .i64 pos] 93)
                rw [show (w5.alloc (.cells #[.int .i64 t.kind, .string (str t.s), .int .i64 t.n, .int .i64 pos] 93)).heap.size = w5.heap.size + 1 by simp] at h1
                exact h1
              have HOW5 : Hid (OwnAt tokL 93 w5 (w.heap.size + 1) (fun b => w.heap.size ≤ b ∧ b ∉ ownB (.slice a k q)) (.slice a k q) ts) := OwnAt.k HOW.out K5.out
              have HOB5 : Hid (∀ b ∈ ownB (.slice a k q), w.heap.size + 1 ≤ b ∧ b < w5.heap.size) := OwnAt.ge HOW5.out
              have HI5 : Hid (w5.heap[w.heap.size]? = some (.stringIter s (pos + n))) := (K5.out.block _ hz4 (by simp)).trans HI.out
              clear ho hlx
              unfold oneV
              dsimp only
              go_wp2_with (at_builtin; go_must (refine wpList_append_off (L := tokL) (PB := fun _ => False) _ (by rfl) _ _ _ (by rfl) (w.heap.size + 1) 93 it _ 40 Tryz.underlying89 hi0 hz0 hz1 hz2 rfl (R := fun b => w.heap.size ≤ b) (.slice a k q) (by rfl) ts [{ t with at_ := pos }] k HTL.out [[.int .i64 t.kind, .string (str t.s), .int .i64 t.n, .int .i64 pos]] (HOW5.out.k (by exact Keeps.K)) (.slice _ _ _) (by rfl) 1 rfl (ElemsAt.one1 (by show _ = tokC _; rfl)) (Reads.one1 HRW.out rfl) (by omega) (le_maxLen (by omega)) (by exact Nat.le_trans (Nat.succ_le_of_lt z5) (Keeps.size (F := []) (by exact Keeps.K))) (fun b _ hb => hb.elim) ?_; intro a6 q6 w6 ho6 hk6 hv6))
              have KX : Hid (Keeps [] w5 ((w5.alloc (.cells #[.int .i64 t.kind, .string (str t.s), .int .i64 t.n, .int .i64 pos] 93)).alloc (.cells #[.int .i64 t.kind, .string (str t.s), .int .i64 t.n, .int .i64 pos] 93))) := by exact Keeps.K
              have HI6 : Hid (w6.heap[w.heap.size]? = some (.stringIter s (pos + n))) := by
                have h1 := hk6.out.block w.heap.size (Nat.lt_of_lt_of_le z5 KX.out.size) (fun h => by have := (HOB5.out _ h).1; omega)
                exact h1.trans ((KX.out.block _ z5 (by simp)).trans HI5.out)
              have HK6 : Hid (Keeps [] w w6) := ((KW4.out.trans K5.out (fun _ _ h => h)).trans KX.out (fun _ _ h => h)).trans hk6.out (fun b hb hb' => by have := (HOB5.out b hb').1; omega)
              have HZ6 : w.heap.size < w6.heap.size := Nat.lt_of_lt_of_le (Nat.lt_of_lt_of_le z5 KX.out.size) hk6.out.size
              refine ⟨⟨ts ++ [{ t with at_ := pos }], pos + n, pos + k', k + 1, a6, q6, hn2, by omega, hk2, rfl, by simp, HZ6, by rw [List.length_append, HTL.out]; rfl, HLX2.out, ho6.out, HI6.out, HK6.out⟩, ?_⟩
              simp only [World.iterPos, HI6.out, HW.out.2.2.2.1]
              omega
      · have he : pos = s.size := by omega
        subst he
        have hnx : ∀ ty, (Instr.next (.pointer (some ⟨w.heap.size, 0, none⟩)) true ty).run Tryz.prog wr = _ := fun ty => Lib.run_next_end_at wr w.heap.size s s.size ty hit hp
        have HX2 : Hid (lexL s.data.toList 0 = .ok (ts ++ [⟨0, [], 0, s.size⟩])) := by
          have := HW.out.2.1.end_ (by rw [HL.out]; exact hp)
          rw [HL.out] at this
          exact this
        have HTL := hid HW.out.1
        have HOW := hid HW.out.2.2.1
        have HKW := hid HW.out.2.2.2.2
        have HOB : Hid (∀ b ∈ ownB (.slice a k q), w.heap.size + 1 ≤ b ∧ b < wr.heap.size) := fun b hb => OwnAt.ge HOW.out b hb
        have HRW : Hid ((wr.alloc (.cells #[.int .i64 0, .string ⟨#[]⟩, .int .i64 0, .int .i64 s.size] 93)).heap[wr.heap.size]? = some (.cells #[.int .i64 0, .string ⟨#[]⟩, .int .i64 0, .int .i64 s.size] 93 (0, 0))) := heap_alloc_new _ _
        clear hit hp
        go_wp2_with (at_builtin; go_must (refine wpList_append_off (L := tokL) (PB := fun _ => False) _ (by rfl) _ _ _ (by rfl) (w.heap.size + 1) 93 it _ 40 Tryz.underlying89 hi0 hz0 hz1 hz2 rfl (R := fun b => w.heap.size ≤ b) (.slice a k q) (by rfl) ts [⟨0, [], 0, s.size⟩] k HTL.out [[.int .i64 0, .string ⟨#[]⟩, .int .i64 0, .int .i64 s.size]] (HOW.out.k (by exact Keeps.K)) (.slice _ _ _) (by rfl) 1 rfl (ElemsAt.one1 (by show _ = tokC _; rfl)) (Reads.one1 HRW.out rfl) (by omega) (le_maxLen (by omega)) (by exact Nat.le_trans (Nat.succ_le_of_lt hsz) (Keeps.size (F := []) (by exact Keeps.K))) (fun b _ hb => hb.elim) ?_; intro a6 q6 w6 ho6 hk6 hv6))
        rw [Exit.noGoto_ret]
        refine bodyPost_ret (v := .tuple #[.slice a6 (k + 1) q6, .int .i64 0, .int .i64 0]) (by simp [results, Tryz.results59, go_sem]) rfl ?_
        have hr2 := HR.out
        rw [HX2.out] at hr2
        refine ⟨.slice a6 (k + 1) q6, by rw [hr2]; rfl, by rw [hr2]; exact OwnAt.list ho6.out (fun b _ hb => hb.1) (fun b hb => by have := (OwnAt.ge ho6.out b hb).1; omega), ?_⟩
        exact (HKW.out.trans (G := []) (by exact Keeps.K) (fun _ _ h => h)).trans hk6.out (fun b hb hb' => by have := (HOB.out b hb').1; omega)

/-- A token of a row, cell by cell. -/
theorem tok_get {w : World} {P : Nat → Prop} {b off n c : Nat} {l : List TokD} (h : ListAt tokL w P (.slice (some ⟨b, off, none⟩) n c) l) {i : Nat} {t : TokD} (ht : l[i]? = some t) :
    w.cell? ⟨b, off + i * 4, none⟩ = some (.int .i64 t.kind) ∧ w.cell? ⟨b, off + i * 4 + 1, none⟩ = some (.string (str t.s)) ∧ w.cell? ⟨b, off + i * 4 + 2, none⟩ = some (.int .i64 t.n) ∧ w.cell? ⟨b, off + i * 4 + 3, none⟩ = some (.int .i64 t.at_) := by
  obtain ⟨cs, hcs, hcell⟩ := h.get ht
  have hcs : cs = tokC t := hcs
  subst hcs
  exact ⟨hcell 0 _ rfl, hcell 1 _ rfl, hcell 2 _ rfl, hcell 3 _ rfl⟩

end Go.Proofs.YtnjdepojmnniaaaGreatDoor
