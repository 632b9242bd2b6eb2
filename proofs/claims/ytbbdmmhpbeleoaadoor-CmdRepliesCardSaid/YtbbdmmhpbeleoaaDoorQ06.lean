/- Joined of LxN, LxV, LxX, LxY, LxZ, LxR, LxNm, VaV, VaE2, VaF. -/
import Derived.Test.YtbbdmmhpbeleoaaDoorQ05
import Derived.WalkMore
import Derived.Test.YtbbdmmhpbeleoaaDoorQ01
import Derived.Test.YtbbdmmhpbeleoaaDoorQ04
import Derived.Test.YtbbdmmhpbeleoaaDoorQ02
import Derived.Test.YtbbdmmhpbeleoaaDoorQ00

/- The program's Lex. -/
namespace Go.Proofs.YtbbdmmhpbeleoaaDoor
open Go Go.RowKit

def tokL : Lay TokD where
  size := 4
  pos := by decide
  at_ _ _ cs t := cs = tokC t
  len := fun e => by rw [e]; rfl
  one := fun e u hu => by
    rw [e] at hu
    simp [tokC] at hu
    rcases hu with rfl | rfl | rfl | rfl <;> rfl
  keep := fun e _ _ => e
  mono := fun e _ => e
theorem Tryd.infoTok : (Tryd.prog.info? 90).map (fun i => (i.zero, i.size, i.bytes)) = some (some (.agg #[.int .i64 0, .string ⟨#[]⟩, .int .i64 0, .int .i64 0]), 4, 40) := by kernel_rfl
/-- What a text's tokens are, the place of the first wrong one, how it ends. -/
def lexR (L : List UInt8) : List TokD × Nat × Nat :=
  if 400 < L.length then ([], 400, 7) else match lexL L 0 with
    | .error p => ([], p, 5)
    | .ok ts => (ts, 0, 0)
def LexPost (L : List UInt8) (w : World) (e : Ending) (w' : World) : Prop :=
  ∃ v, e = .returned (.tuple #[v, .int .i64 (lexR L).2.1, .int .i64 (lexR L).2.2]) ∧ ListAt tokL w' (fun b => w.heap.size ≤ b) v (lexR L).1 ∧ Keeps [] w w'

set_option maxRecDepth 100000 in
set_option maxHeartbeats 8000000 in
theorem lxLex_any (s : ByteArray) (w : World) (hT : Tabs w) (hE : Errs w) (hs : s.size ≤ 1000000) :
    Calls Tryd.prog 54 #[.string s] w (LexPost s.data.toList w) := by
  have hl : s.data.toList.length = s.size := Array.length_toList
  by_cases hbig : 400 < s.size
  · have hI : 400 < (s.size : Int) := by omega
    have HR : Hid (lexR s.data.toList = ([], 400, 7)) := by
      show lexR _ = _
      unfold lexR
      rw [if_pos (by rw [hl]; exact hbig)]
    clear hl hbig
    go_enter Tryd.func54, Tryd.ntmps54
    go_wp2_with fail
    go_step3
    go_wp2_with fail
    rw [Exit.noGoto_ret]
    refine bodyPost_ret (v := .tuple #[.slice none 0 0, .int .i64 400, .int .i64 7]) (by simp [results, Tryd.results54, go_sem]) rfl ?_
    exact ⟨_, by rw [HR.out]; rfl, by rw [HR.out]; exact ListAt.nil _ _ _ _, Keeps.refl [] w⟩
  · have hI : (s.size : Int) ≤ 400 := by omega
    have HR : Hid (lexR s.data.toList = match lexL s.data.toList 0 with
        | .error p => ([], p, 5)
        | .ok ts => (ts, 0, 0)) := by
      show lexR _ = _
      unfold lexR
      rw [if_neg (by rw [hl]; exact hbig)]
    obtain ⟨it, hi0, hz0, hz1, hz2⟩ := info_parts Tryd.infoTok
    have HL := hid hl
    have HT := hid hT
    have HE := hid hE
    have hs4 : s.size ≤ 400 := by omega
    clear hl hbig hT hE
    go_enter Tryd.func54, Tryd.ntmps54
    go_wp2_with fail
    go_step3
    go_wp2_with fail
    go_step3
    go_wp2_with fail
    go_loopw [5, 6] (fun v en wr => ∃ (ts : List TokD) (pos e k : Nat) (a : Option Addr) (q : Nat), pos ≤ s.size ∧ k ≤ pos ∧ e ≤ s.size ∧ v = .slice a k q ∧ en = .int .i64 e ∧ w.heap.size < wr.heap.size ∧ Hid (ts.length = k ∧ LexAt s.data.toList ts pos e ∧ OwnAt tokL 90 wr (w.heap.size + 1) (fun b => w.heap.size ≤ b ∧ b ∉ ownB (.slice a k q)) (.slice a k q) ts ∧ wr.heap[w.heap.size]? = some (.stringIter s pos) ∧ Keeps [] w wr)) (fun _ _ wr => s.size - wr.iterPos w.heap.size)
    case atStart => exact ⟨[], 0, 0, 0, none, 0, Nat.zero_le _, Nat.le_refl _, Nat.zero_le _, rfl, rfl, by simp [World.iter], rfl, LexAt.zero _, OwnAt.nil _ _ _ _, World.iter_heap w s 0, (Keeps.refl [] w).alloc _⟩
    case round =>
      obtain ⟨ts, pos, e, k, a, q, hps, hkp, hes, rfl, rfl, hsz, HW⟩ := hrel
      have hit := HW.out.2.2.2.1
      by_cases hp : pos < s.size
      · obtain ⟨n, hn⟩ : ∃ n, (Utf8.decode s pos).2 = n := ⟨_, rfl⟩
        obtain ⟨r, hr⟩ : ∃ r, (Utf8.decode s pos).1 = r := ⟨_, rfl⟩
        obtain ⟨wi, hwi⟩ : ∃ wi, wr.iterAt w.heap.size s (pos + n) = wi := ⟨_, rfl⟩
        have hnx : ∀ ty, (Instr.next (.pointer (some ⟨w.heap.size, 0, none⟩)) true ty).run Tryd.prog wr = _ := fun ty => Lib.run_next_any_at wr w.heap.size s pos ty hit hp
        have hit2 := Lib.iterAt_heap wr w.heap.size s pos (pos + n) hit
        have hkw : Keeps [w.heap.size] wr wi := by
          rw [← hwi]
          exact ⟨rfl, rfl, rfl, by rw [Lib.iterAt_size]; exact Nat.le_refl _, fun i _ hi => Lib.iterAt_other wr w.heap.size i s (pos + n) (by simpa using hi)⟩
        have hszi : wi.heap.size = wr.heap.size := by rw [← hwi, Lib.iterAt_size]
        have hr1 : r ≤ 1114111 := by rw [← hr]; exact Lib.rune_le s pos
        have hn1 : 1 ≤ n := by rw [← hn]; exact Lib.width_pos s pos
        have hpl : pos < s.data.toList.length := by rw [HL.out]; exact hp
        have hne : s.data.toList.drop pos ≠ [] := by simp; omega
        have hn2 : pos + n ≤ s.size := by
          have := wid_le hne
          rw [(clsL_drop s pos).2, hn, List.length_drop, HL.out] at this
          omega
        have HC := hid ((clsL_drop s pos).1)
        have HN := hid ((clsL_drop s pos).2)
        rw [hr] at HC
        rw [hn] at HN
        rw [hwi] at hit2
        simp only [hn, hr, hwi] at hnx
        have HT2 := hid hit2
        have HKW := hid hkw
        have HNE := hid hne
        have HPL := hid hpl
        have hzi : w.heap.size < wi.heap.size := by omega
        have HX : Hid (∀ ty, (Instr.next (.pointer (some ⟨w.heap.size, 0, none⟩)) true ty).run Tryd.prog wr = _) := hnx
        clear hit hit2 hkw hwi hn hr hnx hszi hne hpl
        have hnx := HX.out
        go_wp2_with fail
        refine (ruClass_any r _ hr1).mono ?_
        rintro e' w4 ⟨rfl, hk⟩
        obtain ⟨c, hc⟩ : ∃ c, clsR r = c := ⟨_, rfl⟩
        rw [hc] at HC ⊢
        have hc3 : c ≤ 3 := by
          rw [← hc]
          unfold clsR
          repeat' split
          all_goals decide
        have K4 : Hid (Keeps [w.heap.size] wr w4) := HKW.out.trans hk (fun _ _ h => by cases h)
        have HI : Hid (w4.heap[w.heap.size]? = some (.stringIter s (pos + n))) := (hk.block _ hzi (by simp)).trans HT2.out
        have hz4 : w.heap.size < w4.heap.size := Nat.lt_of_lt_of_le hzi hk.size
        have HOB : Hid (∀ b ∈ ownB (.slice a k q), w.heap.size + 1 ≤ b ∧ b < wr.heap.size) := fun b hb => OwnAt.ge HW.out.2.2.1 b hb
        have HOW : Hid (OwnAt tokL 90 w4 (w.heap.size + 1) (fun b => w.heap.size ≤ b ∧ b ∉ ownB (.slice a k q)) (.slice a k q) ts) := by
          obtain ⟨css, g1, g2⟩ := HW.out.2.2.1
          exact ⟨css, ⟨g1.1, fun i cs x h1 h2 => g1.2 i cs x h1 h2⟩, ownsRow_keeps g2 K4.out (fun b hb hb' => by have := (HOB.out b hb).1; simp at hb'; omega)⟩
        have KW4 : Hid (Keeps [] w w4) := HW.out.2.2.2.2.trans K4.out (fun b h1 h2 => by simp at h2; omega)
        have HLX := hid HW.out.2.1
        have HTL := hid HW.out.1
        clear hk hnx hc
        have i0 : (0 : Int) ≤ (pos : Int) := Int.natCast_nonneg _
        have i1 : (pos : Int) ≤ (s.size : Int) := by omega
        by_cases hpe : pos < e
        · have d1 : (pos : Int) < (e : Int) := by omega
          have HZ : Hid (LexAt s.data.toList ts (pos + n) e) := by
            have := HLX.out.skip HPL.out hpe
            rw [HN.out] at this
            exact this
          clear hpe
          go_wp2_with fail
          go_roundw
          case rel => exact ⟨ts, pos + n, e, k, a, q, hn2, by omega, hes, rfl, rfl, hz4, HTL.out, HZ.out, HOW.out, HI.out, KW4.out⟩
          case measure =>
            simp only [World.iterPos, HI.out, HW.out.2.2.2.1]
            omega
        · have d1 : (e : Int) ≤ (pos : Int) := by omega
          by_cases hc : c = 3
          · have d2 : ((c : Int) == 3) = true := by simp [hc]
            have HZ : Hid (LexAt s.data.toList ts (pos + n) e) := by
              have := HLX.out.space HPL.out hpe (HC.out.trans hc)
              rw [HN.out] at this
              exact this
            clear hpe hc
            go_wp2_with fail
            go_roundw
            case rel => exact ⟨ts, pos + n, e, k, a, q, hn2, by omega, hes, rfl, rfl, hz4, HTL.out, HZ.out, HOW.out, HI.out, KW4.out⟩
            case measure =>
              simp only [World.iterPos, HI.out, HW.out.2.2.2.1]
              omega
          · have d2 : ((c : Int) == 3) = false := by simp; omega
            obtain ⟨m, hm⟩ : ∃ m, s.extract pos s.size = m := ⟨_, rfl⟩
            have hml : m.data.toList = s.data.toList.drop pos := by
              have := extract_str s pos (s.size - pos)
              rw [show pos + (s.size - pos) = s.size by omega, hm] at this
              rw [this]
              exact List.take_of_length_le (by rw [List.length_drop, HL.out]; exact Nat.le_refl _)
            have hmz : m.size = s.size - pos := by rw [← hm, ByteArray.size_extract]; omega
            have HONE := hid (fun w1 hT1 hE1 => lxOne_any m c w1 hT1 hE1 (by omega) (by omega) (by rw [hml]; exact HC.out))
            rw [hml] at HONE
            have HBAD : Hid (oneD (s.data.toList.drop pos) = none → lexL s.data.toList 0 = .error pos) := fun h => HLX.out.bad HPL.out hpe (by rw [HC.out]; exact hc) h
            have HTOK : Hid (∀ t k', oneD (s.data.toList.drop pos) = some (t, k') → LexAt s.data.toList (ts ++ [{ t with at_ := pos }]) (pos + n) (pos + k') ∧ 1 ≤ k' ∧ pos + k' ≤ s.size) := fun t k' h => by
              have h1 := HLX.out.tok HPL.out hpe (by rw [HC.out]; exact hc) h
              rw [HN.out] at h1
              have h2 := oneD_pos HNE.out h
              rw [List.length_drop, HL.out] at h2
              exact ⟨h1, h2.1, by omega⟩
            clear hpe hc hml hmz
            go_wp2_with fail
            refine (HONE.out _ (HT.out.k KW4.out) (HE.out.k KW4.out)).mono ?_
            rintro e' w5 ⟨rfl, hk5⟩
            have K5 := hid hk5
            have z5 : w.heap.size < w5.heap.size := Nat.lt_of_lt_of_le hz4 hk5.size
            clear hk5
            rcases ho : oneD (s.data.toList.drop pos) with _ | ⟨t, k'⟩
            · have HX2 := hid (HBAD.out ho)
              clear ho
              unfold oneV
              dsimp only
              go_wp2_with fail
              rw [Exit.noGoto_ret]
              refine bodyPost_ret (v := .tuple #[.slice none 0 0, .int .i64 pos, .int .i64 5]) (by simp [results, Tryd.results54, go_sem]) rfl ?_
              have hr2 := HR.out
              rw [HX2.out] at hr2
              exact ⟨_, by rw [hr2]; rfl, by rw [hr2]; exact ListAt.nil _ _ _ _, (KW4.out.trans K5.out (fun _ _ h => h)).trans (G := []) (by exact Keeps.K) (fun _ _ h => h)⟩
            · obtain ⟨hlx, hk1, hk2⟩ := HTOK.out t k' ho
              have HLX2 := hid hlx
              have d3 : ((k' : Int) == 0) = false := by simp; omega
              have j0 : (0 : Int) ≤ (k' : Int) := Int.natCast_nonneg _
              have j1 : (pos : Int) + (k' : Int) ≤ 400 := by omega
              have HRW : Hid (((w5.alloc (.cells #[.int .i64 t.kind, .string (str t.s), .int .i64 t.n, .int .i64 pos] 90)).alloc (.cells #[.int .i64 t.kind, .string (str t.s), .int .i64 t.n, .int .i64 pos] 90)).heap[w5.heap.size + 1]? = some (.cells #[.int .i64 t.kind, .string (str t.s), .int .i64 t.n, .int .i64 pos] 90 (0, 0))) := by
                have h1 := heap_alloc_new (w5.alloc (.cells #[.int .i64 t.kind, .string (str t.s), .int .i64 t.n, .int .i64 pos] 90)) (.cells #[.int .i64 t.kind, .string (str t.s), .int .i64 t.n, .int .i64 pos] 90)
                rw [show (w5.alloc (.cells #[.int .i64 t.kind, .string (str t.s), .int .i64 t.n, .int .i64 pos] 90)).heap.size = w5.heap.size + 1 by simp] at h1
                exact h1
              have HOW5 : Hid (OwnAt tokL 90 w5 (w.heap.size + 1) (fun b => w.heap.size ≤ b ∧ b ∉ ownB (.slice a k q)) (.slice a k q) ts) := OwnAt.k HOW.out K5.out
              have HOB5 : Hid (∀ b ∈ ownB (.slice a k q), w.heap.size + 1 ≤ b ∧ b < w5.heap.size) := OwnAt.ge HOW5.out
              have HI5 : Hid (w5.heap[w.heap.size]? = some (.stringIter s (pos + n))) := (K5.out.block _ hz4 (by simp)).trans HI.out
              clear ho hlx
              unfold oneV
              dsimp only
              go_wp2_with (at_builtin; go_must (refine wpList_append_off (L := tokL) (PB := fun _ => False) _ (by rfl) _ _ _ (by rfl) (w.heap.size + 1) 90 it _ 40 Tryd.underlying86 hi0 hz0 hz1 hz2 rfl (R := fun b => w.heap.size ≤ b) (.slice a k q) (by rfl) ts [{ t with at_ := pos }] k HTL.out [[.int .i64 t.kind, .string (str t.s), .int .i64 t.n, .int .i64 pos]] (HOW5.out.k (by exact Keeps.K)) (.slice _ _ _) (by rfl) 1 rfl (ElemsAt.one1 (by show _ = tokC _; rfl)) (Reads.one1 HRW.out rfl) (by omega) (le_maxLen (by omega)) (by exact Nat.le_trans (Nat.succ_le_of_lt z5) (Keeps.size (F := []) (by exact Keeps.K))) (fun b _ hb => hb.elim) ?_; intro a6 q6 w6 ho6 hk6 hv6))
              have KX : Hid (Keeps [] w5 ((w5.alloc (.cells #[.int .i64 t.kind, .string (str t.s), .int .i64 t.n, .int .i64 pos] 90)).alloc (.cells #[.int .i64 t.kind, .string (str t.s), .int .i64 t.n, .int .i64 pos] 90))) := by exact Keeps.K
              have HI6 : Hid (w6.heap[w.heap.size]? = some (.stringIter s (pos + n))) := by
                have h1 := hk6.out.block w.heap.size (Nat.lt_of_lt_of_le z5 KX.out.size) (fun h => by have := (HOB5.out _ h).1; omega)
                exact h1.trans ((KX.out.block _ z5 (by simp)).trans HI5.out)
              have HK6 : Hid (Keeps [] w w6) := ((KW4.out.trans K5.out (fun _ _ h => h)).trans KX.out (fun _ _ h => h)).trans hk6.out (fun b hb hb' => by have := (HOB5.out b hb').1; omega)
              have HZ6 : w.heap.size < w6.heap.size := Nat.lt_of_lt_of_le (Nat.lt_of_lt_of_le z5 KX.out.size) hk6.out.size
              refine ⟨⟨ts ++ [{ t with at_ := pos }], pos + n, pos + k', k + 1, a6, q6, hn2, by omega, hk2, rfl, by simp, HZ6, by rw [List.length_append, HTL.out]; rfl, HLX2.out, ho6.out, HI6.out, HK6.out⟩, ?_⟩
              simp only [World.iterPos, HI6.out, HW.out.2.2.2.1]
              omega
      · have he : pos = s.size := by omega
        subst he
        have hnx : ∀ ty, (Instr.next (.pointer (some ⟨w.heap.size, 0, none⟩)) true ty).run Tryd.prog wr = _ := fun ty => Lib.run_next_end_at wr w.heap.size s s.size ty hit hp
        have HX2 : Hid (lexL s.data.toList 0 = .ok (ts ++ [⟨0, [], 0, s.size⟩])) := by
          have := HW.out.2.1.end_ (by rw [HL.out]; exact hp)
          rw [HL.out] at this
          exact this
        have HTL := hid HW.out.1
        have HOW := hid HW.out.2.2.1
        have HKW := hid HW.out.2.2.2.2
        have HOB : Hid (∀ b ∈ ownB (.slice a k q), w.heap.size + 1 ≤ b ∧ b < wr.heap.size) := fun b hb => OwnAt.ge HOW.out b hb
        have HRW : Hid ((wr.alloc (.cells #[.int .i64 0, .string ⟨#[]⟩, .int .i64 0, .int .i64 s.size] 90)).heap[wr.heap.size]? = some (.cells #[.int .i64 0, .string ⟨#[]⟩, .int .i64 0, .int .i64 s.size] 90 (0, 0))) := heap_alloc_new _ _
        clear hit hp
        go_wp2_with (at_builtin; go_must (refine wpList_append_off (L := tokL) (PB := fun _ => False) _ (by rfl) _ _ _ (by rfl) (w.heap.size + 1) 90 it _ 40 Tryd.underlying86 hi0 hz0 hz1 hz2 rfl (R := fun b => w.heap.size ≤ b) (.slice a k q) (by rfl) ts [⟨0, [], 0, s.size⟩] k HTL.out [[.int .i64 0, .string ⟨#[]⟩, .int .i64 0, .int .i64 s.size]] (HOW.out.k (by exact Keeps.K)) (.slice _ _ _) (by rfl) 1 rfl (ElemsAt.one1 (by show _ = tokC _; rfl)) (Reads.one1 HRW.out rfl) (by omega) (le_maxLen (by omega)) (by exact Nat.le_trans (Nat.succ_le_of_lt hsz) (Keeps.size (F := []) (by exact Keeps.K))) (fun b _ hb => hb.elim) ?_; intro a6 q6 w6 ho6 hk6 hv6))
        rw [Exit.noGoto_ret]
        refine bodyPost_ret (v := .tuple #[.slice a6 (k + 1) q6, .int .i64 0, .int .i64 0]) (by simp [results, Tryd.results54, go_sem]) rfl ?_
        have hr2 := HR.out
        rw [HX2.out] at hr2
        refine ⟨.slice a6 (k + 1) q6, by rw [hr2]; rfl, by rw [hr2]; exact OwnAt.list ho6.out (fun b _ hb => hb.1) (fun b hb => by have := (OwnAt.ge ho6.out b hb).1; omega), ?_⟩
        exact (HKW.out.trans (G := []) (by exact Keeps.K) (fun _ _ h => h)).trans hk6.out (fun b hb hb' => by have := (HOB.out b hb').1; omega)

/-- A token of a row, cell by cell. -/
theorem tok_get {w : World} {P : Nat → Prop} {b off n c : Nat} {l : List TokD} (h : ListAt tokL w P (.slice (some ⟨b, off, none⟩) n c) l) {i : Nat} {t : TokD} (ht : l[i]? = some t) :
    w.cell? ⟨b, off + i * 4, none⟩ = some (.int .i64 t.kind) ∧ w.cell? ⟨b, off + i * 4 + 1, none⟩ = some (.string (str t.s)) ∧ w.cell? ⟨b, off + i * 4 + 2, none⟩ = some (.int .i64 t.n) ∧ w.cell? ⟨b, off + i * 4 + 3, none⟩ = some (.int .i64 t.at_) := by
  obtain ⟨cs, hcs, hcell⟩ := h.get ht
  have hcs : cs = tokC t := hcs
  subst hcs
  exact ⟨hcell 0 _ rfl, hcell 1 _ rfl, hcell 2 _ rfl, hcell 3 _ rfl⟩

end Go.Proofs.YtbbdmmhpbeleoaaDoor

/- Joined of LxT, LxU, LxV, LxW. -/

/- The document's lexer: its class, its place. -/
namespace Go.Proofs.YtbbdmmhpbeleoaaDoor
open Go Go.RowKit

theorem drop_ne {l : List UInt8} {p : Nat} (h : p < l.length) : l.drop p ≠ [] := by
  intro e
  have := congrArg List.length e
  rw [List.length_drop, List.length_nil] at this
  omega
/-- A piece of a row, cell by cell. -/
theorem pc_get {w : World} {P : Nat → Prop} {b off n c : Nat} {l : List Pc} (h : ListAt pcL w P (.slice (some ⟨b, off, none⟩) n c) l) {i : Nat} {x : Pc} (ht : l[i]? = some x) :
    w.cell? ⟨b, off + i * 4, none⟩ = some (.int .i64 x.at_) ∧ w.cell? ⟨b, off + i * 4 + 1, none⟩ = some (.int .i64 x.n) ∧ w.cell? ⟨b, off + i * 4 + 2, none⟩ = some (.int .i32 x.r) ∧ w.cell? ⟨b, off + i * 4 + 3, none⟩ = some (.bool x.bad) := by
  obtain ⟨cs, hcs, hcell⟩ := h.get ht
  have hcs : cs = pcC x := hcs
  subst hcs
  exact ⟨hcell 0 _ rfl, hcell 1 _ rfl, hcell 2 _ rfl, hcell 3 _ rfl⟩
/-- The class ahead; -1 at the end. -/
def clsA (l : List UInt8) : Int := if l = [] then -1 else (clsL l : Int)

end Go.Proofs.YtbbdmmhpbeleoaaDoor

/- The document's lexer, plain: escapes and texts by pieces. -/
namespace Go.Proofs.YtbbdmmhpbeleoaaDoor
open Go

theorem hx_app : ∀ (l m : List UInt8) (u : Nat), hx (l ++ m) u = (hx l u).bind (hx m)
  | [], _, _ => rfl
  | x :: r, m, u => by
    show hx (x :: (r ++ m)) u = (hx (x :: r) u).bind (hx m)
    unfold hx
    rcases hexV x with _ | d
    · rfl
    · exact hx_app r m _
/-- One digit more. -/
theorem hx_next {t : List UInt8} {j v : Nat} (h : hx (t.take j) 0 = some v) {c : UInt8} (hc : t[j]? = some c) : hx (t.take (j + 1)) 0 = (hexV c).map fun d => v * 16 + d := by
  rw [List.take_add_one, hc, hx_app, h]
  show hx [c] v = _
  unfold hx
  rcases hexV c with _ | d <;> rfl
/-- A digit that is none ends it. -/
theorem hx_stop {t : List UInt8} {j : Nat} (h : hx (t.take j) 0 = none) (m : Nat) (hm : j ≤ m) : hx (t.take m) 0 = none := by
  have e : t.take m = t.take j ++ (t.take m).drop j := by
    conv => lhs; rw [← List.take_append_drop j (t.take m)]
    rw [List.take_take, Nat.min_eq_left hm]
  rw [e, hx_app, h]
  rfl
theorem esc_fail {b : UInt8} {t : List UInt8} (h1 : ¬ (b.toNat = 34 ∨ b.toNat = 92)) (h2 : b.toNat = 117) (h : t.length < 4 ∨ hx (t.take 4) 0 = none) (a : UInt8) : (escL (a :: b :: t)).2 = 0 := by
  rcases Nat.lt_or_ge t.length 4 with hl | hl
  · rw [escL_short h1 hl]
  · rcases h with h | h
    · omega
    · rw [escL_hx h1 h2 hl, h]
theorem esc_done {b : UInt8} {t : List UInt8} {v : Nat} (h1 : ¬ (b.toNat = 34 ∨ b.toNat = 92)) (h2 : b.toNat = 117) (hl : 4 ≤ t.length) (h : hx (t.take 4) 0 = some v) (a : UInt8) : escL (a :: b :: t) = if 55296 ≤ v ∧ v ≤ 57343 then (0, 0) else (v, 6) := by
  rw [escL_hx h1 h2 hl, h]
/-- The rune ahead as a digit. -/
theorem hexV_rune {l : List UInt8} (hl : l ≠ []) : ∃ c t, l = c :: t ∧ ((48 ≤ (Lib.decodeL l).1 ∧ (Lib.decodeL l).1 ≤ 57) → hexV c = some ((Lib.decodeL l).1 - 48) ∧ wid l = 1) ∧ ((97 ≤ (Lib.decodeL l).1 ∧ (Lib.decodeL l).1 ≤ 102) → hexV c = some ((Lib.decodeL l).1 - 87) ∧ wid l = 1) ∧ (¬ (48 ≤ (Lib.decodeL l).1 ∧ (Lib.decodeL l).1 ≤ 57) → ¬ (97 ≤ (Lib.decodeL l).1 ∧ (Lib.decodeL l).1 ≤ 102) → hexV c = none) := by
  rcases l with _ | ⟨c, t⟩
  · exact absurd rfl hl
  · refine ⟨c, t, rfl, ?_⟩
    rcases Nat.lt_or_ge c.toNat 128 with h | h
    · have hd := decode_byte c t h
      have hw : wid (c :: t) = 1 := by unfold wid; rw [hd]
      rw [hd, hw]
      dsimp only
      unfold hexV
      refine ⟨fun g => ⟨if_pos g, rfl⟩, fun g => ⟨by rw [if_neg (by omega), if_pos g], rfl⟩, fun g1 g2 => by rw [if_neg g1, if_neg g2]⟩
    · have hge : 128 ≤ (Lib.decodeL (c :: t)).1 := by
        rcases Nat.lt_or_ge (Lib.decodeL (c :: t)).1 128 with g | g
        · obtain ⟨t', ht⟩ := dec_head (l := c :: t) (by simp) g rfl
          injection ht with ht _
          rw [ht, ofNat_toNat _ (by omega)] at h
          omega
        · exact g
      have hn : hexV c = none := by
        unfold hexV
        rw [if_neg (by omega), if_neg (by omega)]
      exact ⟨fun g => by omega, fun g => by omega, fun _ _ => hn⟩
/-- The byte ahead, by the rune ahead. -/
theorem head_rune {l : List UInt8} (hl : l ≠ []) : ∃ c t, l = c :: t ∧ ∀ x, x < 128 → (c.toNat = x ↔ (Lib.decodeL l).1 = x) := by
  rcases l with _ | ⟨c, t⟩
  · exact absurd rfl hl
  · refine ⟨c, t, rfl, fun x hx => ⟨fun h => ?_, fun h => ?_⟩⟩
    · rw [decode_byte c t (by omega)]; exact h
    · obtain ⟨t', ht⟩ := dec_head (l := c :: t) (by simp) (by omega) h
      injection ht with ht _
      rw [ht, ofNat_toNat _ (by omega)]

/-- The document's text, piece by piece: q bytes read, the bytes so far, as so many runes. -/
structure TxAt (l : List UInt8) (q : Nat) (acc : List UInt8) (n : Nat) : Prop where
  le : q ≤ l.length
  rest : ∀ f, (l.drop q).length < f → unqL l = unqGo f (l.drop q) acc q
  runes : ∃ rs, acc = encs rs ∧ rs.length = n ∧ ∀ r ∈ rs, r < 55296 ∨ (57344 ≤ r ∧ r ≤ 1114111)
theorem unq_fuel : ∀ (f g : Nat) (l acc : List UInt8) (p : Nat), l.length < f → l.length < g → unqGo f l acc p = unqGo g l acc p
  | 0, _, _, _, _, h, _ => by omega
  | _, 0, _, _, _, _, h => by omega
  | f + 1, g + 1, l, acc, p, hf, hg => by
    rw [unqGo_succ, unqGo_succ]
    by_cases hl : l = []
    · rw [if_pos hl, if_pos hl]
    · have hpos := List.length_pos_iff.2 hl
      have hw := Lib.decodeL_width l
      have h1 : (l.drop (Lib.decodeL l).2).length < f ∧ (l.drop (Lib.decodeL l).2).length < g := by rw [List.length_drop]; omega
      rw [unq_fuel f g _ (acc ++ Lib.encodeRune ((Lib.decodeL l).1 : Int)) (p + (Lib.decodeL l).2) h1.1 h1.2]
      by_cases he : (escL l).2 = 0
      · simp only [he, if_true]
      · have h2 : (l.drop (escL l).2).length < f ∧ (l.drop (escL l).2).length < g := by rw [List.length_drop]; omega
        rw [unq_fuel f g _ (acc ++ Lib.encodeRune ((escL l).1 : Int)) (p + (escL l).2) h2.1 h2.2]
theorem TxAt.zero {t : List UInt8} : TxAt (34 :: t) 1 [] 0 := ⟨by simp, fun f hf => by
  have hf' : t.length < f := by simpa using hf
  show (if (34 : UInt8).toNat = 34 then unqGo (t.length + 1) t [] 1 else none) = unqGo f t [] 1
  rw [if_pos (by decide)]
  exact unq_fuel _ _ _ _ _ (by omega) hf', ⟨[], rfl, rfl, fun _ h => by cases h⟩⟩
theorem TxAt.at_ {l acc : List UInt8} {q n : Nat} (h : TxAt l q acc n) : unqL l = if l.drop q = [] then none else if (Lib.decodeL (l.drop q)).1 = 34 then some (acc, q + 1)
    else if (Lib.decodeL (l.drop q)).1 = 92 then (if (escL (l.drop q)).2 = 0 then none else unqGo ((l.drop q).length) ((l.drop q).drop (escL (l.drop q)).2) (acc ++ Lib.encodeRune ((escL (l.drop q)).1 : Int)) (q + (escL (l.drop q)).2))
    else if ((Lib.decodeL (l.drop q)).1 = 65533 ∧ (Lib.decodeL (l.drop q)).2 = 1) ∨ ctlR (Lib.decodeL (l.drop q)).1 = true then none
    else unqGo ((l.drop q).length) ((l.drop q).drop (Lib.decodeL (l.drop q)).2) (acc ++ Lib.encodeRune ((Lib.decodeL (l.drop q)).1 : Int)) (q + (Lib.decodeL (l.drop q)).2) := by
  rw [h.rest ((l.drop q).length + 1) (by omega), unqGo_succ]
theorem TxAt.count {l acc : List UInt8} {q n : Nat} (h : TxAt l q acc n) : runesL acc = n := by
  obtain ⟨rs, h1, h2, h3⟩ := h.runes
  rw [h1, runesL_encs rs h3, h2]
theorem TxAt.open_ {l acc : List UInt8} {q n : Nat} (h : TxAt l q acc n) (hq : ¬ q < l.length) : unqL l = none := by
  rw [h.at_, if_pos (by rw [List.drop_of_length_le (by omega)])]
theorem TxAt.close {l acc : List UInt8} {q n : Nat} (h : TxAt l q acc n) (hq : q < l.length) (h34 : (Lib.decodeL (l.drop q)).1 = 34) : unqL l = some (acc, q + 1) ∧ wid (l.drop q) = 1 := by
  have hne : l.drop q ≠ [] := by simp; omega
  rw [h.at_, if_neg hne, if_pos h34]
  exact ⟨rfl, (dec34 hne (by omega) h34).1⟩
theorem TxAt.bad {l acc : List UInt8} {q n : Nat} (h : TxAt l q acc n) (hq : q < l.length) (hb : badL (l.drop q) = true ∨ ctlR (Lib.decodeL (l.drop q)).1 = true) : unqL l = none := by
  have hne : l.drop q ≠ [] := by simp; omega
  have hc : ((Lib.decodeL (l.drop q)).1 = 65533 ∧ (Lib.decodeL (l.drop q)).2 = 1) ∨ ctlR (Lib.decodeL (l.drop q)).1 = true := hb.imp (fun h => (badL_iff _).1 h) id
  have h34 : (Lib.decodeL (l.drop q)).1 ≠ 34 := by
    rcases hc with ⟨h, _⟩ | h
    · omega
    · intro e; rw [e] at h; exact absurd h (by decide)
  have h92 : (Lib.decodeL (l.drop q)).1 ≠ 92 := by
    rcases hc with ⟨h, _⟩ | h
    · omega
    · intro e; rw [e] at h; exact absurd h (by decide)
  rw [h.at_, if_neg hne, if_neg h34, if_neg h92, if_pos hc]
theorem TxAt.escBad {l acc : List UInt8} {q n : Nat} (h : TxAt l q acc n) (hq : q < l.length) (h92 : (Lib.decodeL (l.drop q)).1 = 92) (he : (escL (l.drop q)).2 = 0) : unqL l = none := by
  have hne : l.drop q ≠ [] := by simp; omega
  rw [h.at_, if_neg hne, if_neg (by omega), if_pos h92, if_pos he]
theorem TxAt.esc {l acc : List UInt8} {q n : Nat} (h : TxAt l q acc n) (hq : q < l.length) (h92 : (Lib.decodeL (l.drop q)).1 = 92) (he : (escL (l.drop q)).2 ≠ 0) (hv : (escL (l.drop q)).1 < 55296 ∨ (57344 ≤ (escL (l.drop q)).1 ∧ (escL (l.drop q)).1 ≤ 1114111)) : TxAt l (q + (escL (l.drop q)).2) (acc ++ Lib.encodeRune ((escL (l.drop q)).1 : Int)) (n + 1) := by
  have hne : l.drop q ≠ [] := by simp; omega
  have hle := (escL_le (l.drop q)).1
  rw [List.length_drop] at hle
  refine ⟨by omega, fun f hf => ?_, ?_⟩
  · rw [h.at_, if_neg hne, if_neg (by omega), if_pos h92, if_neg he, List.drop_drop]
    rw [List.length_drop] at hf
    exact unq_fuel (l.drop q).length f _ _ _ (by rw [List.length_drop, List.length_drop]; omega) (by rw [List.length_drop]; omega)
  · obtain ⟨rs, h1, h2, h3⟩ := h.runes
    refine ⟨rs ++ [(escL (l.drop q)).1], by rw [encs_snoc, h1], by simp [h2], fun r hr => ?_⟩
    rcases List.mem_append.1 hr with hr | hr
    · exact h3 r hr
    · obtain rfl : r = _ := by simpa using hr
      exact hv
theorem TxAt.step {l acc : List UInt8} {q n : Nat} (h : TxAt l q acc n) (hq : q < l.length) (h34 : (Lib.decodeL (l.drop q)).1 ≠ 34) (h92 : (Lib.decodeL (l.drop q)).1 ≠ 92) (hb : ¬ (badL (l.drop q) = true ∨ ctlR (Lib.decodeL (l.drop q)).1 = true)) : TxAt l (q + wid (l.drop q)) (acc ++ Lib.encodeRune ((Lib.decodeL (l.drop q)).1 : Int)) (n + 1) := by
  have hne : l.drop q ≠ [] := by simp; omega
  have hw := wid_le hne
  have hwp := wid_pos (l.drop q)
  rw [List.length_drop] at hw
  have hc : ¬ (((Lib.decodeL (l.drop q)).1 = 65533 ∧ (Lib.decodeL (l.drop q)).2 = 1) ∨ ctlR (Lib.decodeL (l.drop q)).1 = true) := fun g => hb (g.imp (fun h => (badL_iff _).2 h) id)
  refine ⟨by omega, fun f hf => ?_, ?_⟩
  · rw [h.at_, if_neg hne, if_neg h34, if_neg h92, if_neg hc, List.drop_drop]
    rw [List.length_drop] at hf
    have e : (Lib.decodeL (l.drop q)).2 = wid (l.drop q) := rfl
    rw [e]
    exact unq_fuel (l.drop q).length f _ _ _ (by rw [List.length_drop, List.length_drop]; omega) (by rw [List.length_drop]; omega)
  · obtain ⟨rs, h1, h2, h3⟩ := h.runes
    refine ⟨rs ++ [(Lib.decodeL (l.drop q)).1], by rw [encs_snoc, h1], by simp [h2], fun r hr => ?_⟩
    rcases List.mem_append.1 hr with hr | hr
    · exact h3 r hr
    · obtain rfl : r = _ := by simpa using hr
      exact decodeL_valid _
/-- What the escape gives is a rune. -/
theorem esc_rune (l : List UInt8) : (escL l).1 < 55296 ∨ (57344 ≤ (escL l).1 ∧ (escL l).1 ≤ 1114111) := by
  rcases (escL_le l).2.2 with h | h
  · exact .inl h
  · exact .inr (by omega)
theorem encs_len : ∀ (rs : List Nat), (encs rs).length ≤ 4 * rs.length
  | [] => by simp [encs]
  | r :: rs => by
    have h := encs_len rs
    have h1 := Lib.runeCells_le (r : Int)
    rw [Lib.runeCells_length] at h1
    show (Lib.encodeRune (r : Int) ++ encs rs).length ≤ _
    rw [List.length_append, List.length_cons]
    omega
theorem TxAt.len {l acc : List UInt8} {q n : Nat} (h : TxAt l q acc n) : acc.length ≤ 4 * n := by
  obtain ⟨rs, h1, h2, _⟩ := h.runes
  rw [h1, ← h2]
  exact encs_len rs
/-- Pieces and places rise together. -/
theorem PAt.uniq {l : List UInt8} {k p q : Nat} (h : PAt l k p) (g : PAt l k q) : p = q := by
  by_cases hk : k < (pieces l).length
  · have h1 := (h.next hk).1
    rw [(g.next hk).1] at h1
    injection h1 with h1
    injection h1 with h1 _
    exact h1.symm
  · rw [h.end_ hk, g.end_ hk]
theorem PAt.on {l : List UInt8} {k p : Nat} (h : PAt l k p) : ∀ (j : Nat), k + j ≤ (pieces l).length → ∃ q, p ≤ q ∧ PAt l (k + j) q
  | 0, _ => ⟨p, Nat.le_refl _, h⟩
  | j + 1, hj => by
    obtain ⟨q, h1, h2⟩ := h.on j (by omega)
    exact ⟨_, Nat.le_trans h1 (Nat.le_add_right _ _), (h2.next (by omega)).2⟩
theorem PAt.rise {l : List UInt8} {k k' p p' : Nat} (h : PAt l k p) (h' : PAt l k' p') (hp : p < p') : k < k' := by
  rcases Nat.lt_or_ge k k' with g | g
  · exact g
  · obtain ⟨q, h1, h2⟩ := h'.on (k - k') (by have := h.1; omega)
    rw [show k' + (k - k') = k by omega] at h2
    have := h.uniq h2
    omega
/-- The token ahead is a text. -/
theorem one_text_at {l : List UInt8} (h : l.head? = some 34) : oneD l = match unqL l with
    | none => none
    | some (t, k) => if runesL t ≤ 100 then some (⟨2, t, 0, 0⟩, k) else none := by
  rcases l with _ | ⟨c, t⟩
  · cases h
  · obtain rfl : c = 34 := by simpa using h
    have hc : clsL (34 :: t) = 0 := by
      unfold clsL
      rw [decode_byte 34 t (by decide)]
      decide
    unfold oneD
    rw [if_neg (by rw [hc]; decide), if_neg (by rw [hc]; decide), if_pos (show (34 :: t).head? = some 34 from rfl)]
    rfl

end Go.Proofs.YtbbdmmhpbeleoaaDoor

/- The document's lexer: a number, a name. -/
namespace Go.Proofs.YtbbdmmhpbeleoaaDoor
open Go Go.RowKit

/-- Which piece is next, as the memory has it. -/
def ixAt (w : World) (n : Nat) : Nat := match w.cell? ⟨n, 2, none⟩ with
  | some (.int _ i) => i.toNat
  | _ => 0
/-- The digits so far. -/
def NumSt (ok : Bool) (N V : Nat) : Prop := (ok = true ∧ N = V) ∨ (ok = false ∧ 9223372036854775807 < V)

end Go.Proofs.YtbbdmmhpbeleoaaDoor

/- The document's lexer: a name. -/
namespace Go.Proofs.YtbbdmmhpbeleoaaDoor
open Go Go.RowKit

end Go.Proofs.YtbbdmmhpbeleoaaDoor

/- The document's lexer: an escape. -/
namespace Go.Proofs.YtbbdmmhpbeleoaaDoor
open Go Go.RowKit

theorem hx_lt' : ∀ (l : List UInt8) (u v : Nat), hx l u = some v → v < (u + 1) * 16 ^ l.length
  | [], u, v, h => by
    injection h with h
    subst h
    simp
  | x :: r, u, v, h => by
    unfold hx at h
    rcases hd : hexV x with _ | d
    · rw [hd] at h; cases h
    · rw [hd] at h
      have h16 := hexV_lt hd
      have := hx_lt' r (u * 16 + d) v h
      rw [List.length_cons, Nat.pow_succ, Nat.mul_comm (16 ^ r.length), ← Nat.mul_assoc]
      exact Nat.lt_of_lt_of_le this (Nat.mul_le_mul_right _ (by omega))
end Go.Proofs.YtbbdmmhpbeleoaaDoor

/- The document's lexer: a text. -/
namespace Go.Proofs.YtbbdmmhpbeleoaaDoor
open Go Go.RowKit

theorem str_app (a b : List UInt8) : str a ++ str b = str (a ++ b) := by
  refine ByteArray.ext ?_
  rw [ByteArray.data_append]
  show a.toArray ++ b.toArray = (a ++ b).toArray
  simp
end Go.Proofs.YtbbdmmhpbeleoaaDoor

/- The document's lexer: a sign. -/
namespace Go.Proofs.YtbbdmmhpbeleoaaDoor
open Go Go.RowKit

theorem one_sign_at {l : List UInt8} (h1 : clsL l = 0) (h34 : l.head? ≠ some 34) : oneD l = if signL l = 0 then none else some (⟨4, l.take (signL l), 0, 0⟩, signL l) := by
  unfold oneD
  rw [if_neg (by rw [h1]; decide), if_neg (by rw [h1]; decide), if_neg h34]
def signsB : ByteArray := ⟨#[43, 45, 42, 47, 37, 40, 41, 44, 61, 60, 62, 38, 124, 33]⟩
theorem signs_at : ∀ i : Fin 14, signsB.data.toList.getD i.val 0 = signs.getD i.val 0 ∧ (signs.getD i.val 0).toNat < 128 := by decide
theorem signs_cut : ∀ i : Fin 14, signsB.extract i.val (i.val + 1) = str [signs.getD i.val 0] := by decide
theorem sgn (i : Nat) (hi : i < 14) : ∃ (x : UInt8), (∀ h, (⟨#[43, 45, 42, 47, 37, 40, 41, 44, 61, 60, 62, 38, 124, 33]⟩ : ByteArray)[i]'h = x) ∧ x = signs.getD i 0 ∧ x.toNat < 128 ∧ (⟨#[43, 45, 42, 47, 37, 40, 41, 44, 61, 60, 62, 38, 124, 33]⟩ : ByteArray).extract i (i + 1) = str [x] := by
  have h1 := signs_at ⟨i, hi⟩
  have h2 := signs_cut ⟨i, hi⟩
  refine ⟨signs.getD i 0, fun h => ?_, rfl, h1.2, h2⟩
  rw [← h1.1, List.getD_eq_getElem?_getD, List.getElem?_eq_getElem (show i < signsB.data.toList.length from hi)]
  rfl

theorem sgn2 (i : Nat) (hi : i < 14) (r : Nat) : ∃ (x : UInt8) (d : Nat), (∀ h, (⟨#[43, 45, 42, 47, 37, 40, 41, 44, 61, 60, 62, 38, 124, 33]⟩ : ByteArray)[i]'h = x) ∧ x = signs.getD i 0 ∧ x.toNat = d ∧ (⟨#[43, 45, 42, 47, 37, 40, 41, 44, 61, 60, 62, 38, 124, 33]⟩ : ByteArray).extract i (i + 1) = str [x] ∧ (0 : Int) ≤ (d : Int) ∧ (d : Int) ≤ 127 ∧ wrap32 (d : Int) = (d : Int) ∧ IntKind.i32.wrap (d : Int) = (d : Int) ∧
    (((d : Int) != (r : Int)) = false ∧ d = r ∨ ((d : Int) != (r : Int)) = true ∧ d ≠ r) := by
  obtain ⟨x, h0, h1, h2, h3⟩ := sgn i hi
  refine ⟨x, x.toNat, h0, h1, rfl, h3, Int.natCast_nonneg _, by omega, by unfold wrap32; omega, by rw [IntKind.wrap_i32]; omega, ?_⟩
  by_cases h : x.toNat = r
  · exact .inl ⟨by simp [h], h⟩
  · exact .inr ⟨by simp; omega, h⟩

theorem sign_mem {i : Nat} (h : i < 14) : signs.getD i 0 ∈ signs := by
  rw [List.getD_eq_getElem?_getD, List.getElem?_eq_getElem (show i < signs.length from h)]
  exact List.getElem_mem _
theorem sign_none {c : UInt8} {t : List UInt8} (h : ∀ j, j < 14 → signs.getD j 0 ≠ c) : signL (c :: t) = 0 := by
  have hn : ¬ signs.contains c = true := by
    intro hm
    have hm : c ∈ signs := by simpa using hm
    obtain ⟨j, hj, e⟩ := List.getElem_of_mem hm
    refine h j hj ?_
    rw [List.getD_eq_getElem?_getD, List.getElem?_eq_getElem hj]
    exact e
  have h2 : ¬ ((c = 60 ∨ c = 62 ∨ c = 33) ∧ t.head? = some 61) := by
    rintro ⟨rfl | rfl | rfl, _⟩ <;> exact hn (by decide)
  rw [signL_cons, if_neg h2, if_neg hn]
/-- What sign it is. -/
theorem sign_of {s : ByteArray} {p r wi : Nat} {c x : UInt8} {tl : List UInt8} (hct : s.data.toList.drop p = c :: tl) (hx : x ∈ signs) (hxr : x.toNat = r) (hcr : c.toNat = r) (hwi : wid (s.data.toList.drop p) = wi) (hne : s.data.toList.drop p ≠ []) (hr : (Lib.decodeL (s.data.toList.drop p)).1 = r) (h128 : r < 128) :
    wi = 1 ∧ tl = s.data.toList.drop (p + 1) ∧
    ((r = 60 ∨ r = 62 ∨ r = 33) → (s.data.toList.drop (p + 1)).head? = some 61 → signL (s.data.toList.drop p) = 2 ∧ (s.data.toList.drop p).take 2 = [x, 61]) ∧
    (¬ ((r = 60 ∨ r = 62 ∨ r = 33) ∧ (s.data.toList.drop (p + 1)).head? = some 61) → signL (s.data.toList.drop p) = 1 ∧ (s.data.toList.drop p).take 1 = [x]) := by
  have hw1 := (dec34 hne h128 hr).1
  have htl : tl = s.data.toList.drop (p + 1) := by
    rw [← List.drop_drop, hct]
    rfl
  have hxc : x = c := UInt8.toNat_inj.1 (by rw [hxr, hcr])
  subst hxc
  have hk : (x = 60 ∨ x = 62 ∨ x = 33) ↔ (r = 60 ∨ r = 62 ∨ r = 33) := by
    rw [← hxr]
    constructor
    · rintro (rfl | rfl | rfl) <;> decide
    · rintro (h | h | h)
      · exact .inl (UInt8.toNat_inj.1 h)
      · exact .inr (.inl (UInt8.toNat_inj.1 h))
      · exact .inr (.inr (UInt8.toNat_inj.1 h))
  refine ⟨hwi ▸ hw1, htl, fun h1 h2 => ?_, fun h => ?_⟩
  · rw [hct, signL_cons, if_pos ⟨hk.2 h1, htl ▸ h2⟩]
    refine ⟨rfl, ?_⟩
    rw [← htl] at h2
    rcases tl with _ | ⟨d, tl⟩
    · cases h2
    · obtain rfl : d = 61 := by simpa using h2
      rfl
  · rw [hct, signL_cons, if_neg (fun g => h ⟨hk.1 g.1, htl ▸ g.2⟩), if_pos (by simpa using hx)]
    exact ⟨rfl, rfl⟩
end Go.Proofs.YtbbdmmhpbeleoaaDoor

/- The document's Lex. -/
namespace Go.Proofs.YtbbdmmhpbeleoaaDoor
open Go Go.RowKit

/-- The class ahead tells whether there is a piece. -/
theorem clsA_in {s : ByteArray} {k p : Nat} (hp : PAt s.data.toList k p) {c : Nat} (h : clsA (s.data.toList.drop p) = (c : Int)) : k < (pieces s.data.toList).length ∧ clsL (s.data.toList.drop p) = c := by
  rcases Nat.lt_or_ge k (pieces s.data.toList).length with g | g
  · refine ⟨g, ?_⟩
    unfold clsA at h
    rw [if_neg (drop_ne (hp.lt g))] at h
    omega
  · have := hp.end_ (by omega)
    rw [this, List.drop_of_length_le (Nat.le_refl _), show clsA [] = -1 from rfl] at h
    omega
theorem clsL_le (l : List UInt8) : clsL l ≤ 3 := by
  unfold clsL clsR
  repeat' split
  all_goals decide

end Go.Proofs.YtbbdmmhpbeleoaaDoor

/- Names, as both have them. -/
namespace Go.Proofs.YtbbdmmhpbeleoaaDoor
open Go Go.RowKit

def wordsL : List (List UInt8) := [[116, 114, 117, 101], [102, 97, 108, 115, 101], [105, 102], [108, 101, 110], [99, 97, 116], [99, 117, 116], [104, 97, 115], [117, 112]]
/-- Is it a word of formulas? -/
def wordD (s : ByteArray) : Bool := wordsL.any fun l => s.toList == l
/-- Is it a name? -/
def nameD (s : ByteArray) : Bool := if (lexR s.data.toList).2.2 = 0 ∧ (lexR s.data.toList).1.length = 2 ∧ ((lexR s.data.toList).1.getD 0 ⟨0, [], 0, 0⟩).kind = 3 ∧ ((lexR s.data.toList).1.getD 0 ⟨0, [], 0, 0⟩).s = s.data.toList then !wordD s else false

set_option maxRecDepth 100000 in
set_option maxHeartbeats 4000000 in
theorem lxWord_any (s : ByteArray) (w : World) : Calls Tryd.prog 55 #[.string s] w fun e w' => e = .returned (.bool (wordD s)) ∧ Keeps [] w w' := by
  have HW : Hid (∀ b, wordD s = b → Ending.returned (.bool b) = .returned (.bool (wordD s)) ∧ Keeps [] w w) := fun b h => ⟨by rw [h], Keeps.refl _ _⟩
  go_enter Tryd.func55, Tryd.ntmps55
  go_wp2_with fail
  all_goals
    go_ret
    refine HW.out _ ?_
    clear HW
    simp_all [wordD, wordsL]

theorem toList_ne {x s : ByteArray} (h : x ≠ s) : (x.toList == s.toList) = false := by
  rw [beq_eq_false_iff_ne]
  intro e
  rw [ByteArray.toList_eq, ByteArray.toList_eq] at e
  exact h (ByteArray.ext (Array.toList_inj.1 e))
theorem words_cell (w : World) (i : Nat) (h : i < 8) : (w.alloc (.cells #[.string ⟨#[116, 114, 117, 101]⟩, .string ⟨#[102, 97, 108, 115, 101]⟩, .string ⟨#[105, 102]⟩, .string ⟨#[108, 101, 110]⟩, .string ⟨#[99, 97, 116]⟩, .string ⟨#[99, 117, 116]⟩, .string ⟨#[104, 97, 115]⟩, .string ⟨#[117, 112]⟩] 9)).cell? ⟨w.heap.size, i, none⟩ = some (.string (str (wordsL.getD i []))) := by
  have hb := heap_alloc_new w (.cells #[.string ⟨#[116, 114, 117, 101]⟩, .string ⟨#[102, 97, 108, 115, 101]⟩, .string ⟨#[105, 102]⟩, .string ⟨#[108, 101, 110]⟩, .string ⟨#[99, 97, 116]⟩, .string ⟨#[99, 117, 116]⟩, .string ⟨#[104, 97, 115]⟩, .string ⟨#[117, 112]⟩] 9)
  obtain rfl | rfl | rfl | rfl | rfl | rfl | rfl | rfl : i = 0 ∨ i = 1 ∨ i = 2 ∨ i = 3 ∨ i = 4 ∨ i = 5 ∨ i = 6 ∨ i = 7 := by omega
  · exact cell_of_block hb 0
  · exact cell_of_block hb 1
  · exact cell_of_block hb 2
  · exact cell_of_block hb 3
  · exact cell_of_block hb 4
  · exact cell_of_block hb 5
  · exact cell_of_block hb 6
  · exact cell_of_block hb 7
theorem word_any {s : ByteArray} : wordD s = true ↔ ∃ j, j < 8 ∧ str (wordsL.getD j []) = s := by
  have h1 : ∀ l : List UInt8, s.toList = l ↔ str l = s := fun l => by
    constructor
    · intro h
      rw [← h, ByteArray.toList_eq]
      exact ByteArray.ext rfl
    · intro h
      rw [← h, str_toList]
  simp only [wordD, List.any_eq_true, beq_iff_eq]
  constructor
  · rintro ⟨l, hl, e⟩
    obtain ⟨j, hj, rfl⟩ := List.getElem_of_mem hl
    refine ⟨j, hj, ?_⟩
    rw [List.getD_eq_getElem?_getD, List.getElem?_eq_getElem hj]
    exact (h1 _).1 e
  · rintro ⟨j, hj, e⟩
    refine ⟨_, List.getElem_mem (show j < wordsL.length from hj), ?_⟩
    rw [List.getD_eq_getElem?_getD, List.getElem?_eq_getElem (show j < wordsL.length from hj)] at e
    exact (h1 _).2 e
set_option maxRecDepth 100000 in
set_option maxHeartbeats 8000000 in
theorem lxLex_all (s : ByteArray) (w : World) (hT : Tabs w) (hE : Errs w) : Calls Tryd.prog 54 #[.string s] w (LexPost s.data.toList w) := by
  by_cases hbig : s.size ≤ 1000000
  · exact lxLex_any s w hT hE hbig
  have hl : s.data.toList.length = s.size := Array.length_toList
  have hI : 400 < (s.size : Int) := by omega
  have HR : Hid (lexR s.data.toList = ([], 400, 7)) := by
    show lexR _ = _
    unfold lexR
    rw [if_pos (by rw [hl]; omega)]
  clear hl hbig hT hE
  go_enter Tryd.func54, Tryd.ntmps54
  go_wp2_with fail
  go_step3
  go_wp2_with fail
  rw [Exit.noGoto_ret]
  refine bodyPost_ret (v := .tuple #[.slice none 0 0, .int .i64 400, .int .i64 7]) (by simp [results, Tryd.results54, go_sem]) rfl ?_
  exact ⟨_, by rw [HR.out]; rfl, by rw [HR.out]; exact ListAt.nil _ _ _ _, Keeps.refl [] w⟩
set_option maxRecDepth 100000 in
set_option maxHeartbeats 4000000 in
theorem lxName_any (s : ByteArray) (w : World) (hT : Tabs w) (hE : Errs w) : Calls Tryd.prog 42 #[.string s] w fun e w' => e = .returned (.bool (nameD s)) ∧ Keeps [] w w' := by
  have HX := hid (lxLex_all s w hT hE)
  obtain ⟨⟨ts, p, e⟩, hR⟩ : ∃ x, lexR s.data.toList = x := ⟨_, rfl⟩
  have HD : Hid (nameD s = if e = 0 ∧ ts.length = 2 ∧ (ts.getD 0 ⟨0, [], 0, 0⟩).kind = 3 ∧ (ts.getD 0 ⟨0, [], 0, 0⟩).s = s.data.toList then !wordD s else false) := by
    show _ = _
    unfold nameD
    rw [hR]
  unfold LexPost at HX
  rw [hR] at HX
  dsimp only at HX
  clear hR hT hE
  go_enter Tryd.func42, Tryd.ntmps42
  go_wp2_with fail
  refine HX.out.mono ?_
  rintro e' w2 ⟨v, rfl, hla, hk⟩
  have K2 := hid hk
  have LA2 := hid hla
  obtain ⟨a, q, rfl⟩ := hla.form
  by_cases he : e = 0
  · subst he
    by_cases hn : ts.length = 2
    · obtain ⟨t, u, rfl⟩ : ∃ t u, ts = [t, u] := by
        match ts, hn with
        | [t, u], _ => exact ⟨t, u, rfl⟩
      obtain ⟨b, off, c, hv, hc1, hc2, hc3, hc4⟩ := hla.addr (by simp)
      simp at hv
      obtain ⟨rfl, rfl⟩ := hv
      obtain ⟨x0, x1, _, _⟩ := tok_get hla (i := 0) rfl
      have y0 : w2.cell? ⟨b, off, none⟩ = some (.int .i64 t.kind) := x0
      have y1 : w2.cell? ⟨b, off + 1, none⟩ = some (.string (str t.s)) := by rw [Nat.zero_mul] at x1; exact x1
      have HD2 : Hid (nameD s = if t.kind = 3 ∧ t.s = s.data.toList then !wordD s else false) := by
        show _ = _
        rw [HD.out]
        simp
      obtain ⟨kd, hkd⟩ : ∃ kd, t.kind = kd := ⟨_, rfl⟩
      obtain ⟨x, hx⟩ : ∃ x, str t.s = x := ⟨_, rfl⟩
      have hxt : t.s = s.data.toList ↔ x = s := by
        constructor
        · intro h; rw [← hx, h]; exact ByteArray.ext rfl
        · intro h; rw [← h, ← hx]; rfl
      rw [hkd] at HD2 y0
      rw [hx] at y1
      have HXT := hid hxt
      clear hk hla x0 x1 hc1 hc2 hc3 hc4 hn hkd hx hxt
      by_cases h3 : kd = 3
      · subst h3
        by_cases hxs : x = s
        · have HB : Hid (nameD s = !wordD s) := by
            show _ = _
            rw [HD2.out, if_pos ⟨rfl, HXT.out.2 hxs⟩]
          subst hxs
          go_wp2_with fail
          refine (lxWord_any _ _).mono ?_
          rintro e w3 ⟨rfl, hk⟩
          have K := hid (K2.out.trans hk (fun _ _ h => h))
          clear hk
          obtain ⟨wd, hwd⟩ : ∃ wd, wordD x = wd := ⟨_, rfl⟩
          rw [hwd] at HB ⊢
          clear hwd
          rcases wd with _ | _
          all_goals
            go_wp2_with fail
            go_ret
            exact ⟨by rw [HB.out]; rfl, K.out⟩
        · have HB : Hid (nameD s = false) := by
            show _ = _
            rw [HD2.out, if_neg (fun h => hxs (HXT.out.1 h.2))]
          have q1 := toList_ne hxs
          clear hxs
          go_wp2_with fail
          go_ret
          exact ⟨by rw [HB.out]; rfl, K2.out⟩
      · have HB : Hid (nameD s = false) := by
          show _ = _
          rw [HD2.out, if_neg (fun h => h3 h.1)]
        have q1 : (kd == 3) = false := by simp; exact h3
        clear h3
        go_wp2_with fail
        go_ret
        exact ⟨by rw [HB.out]; rfl, K2.out⟩
    · have HB : Hid (nameD s = false) := by
        show _ = _
        rw [HD.out, if_neg (fun h => hn h.2.1)]
      obtain ⟨n, hn'⟩ : ∃ n, ts.length = n := ⟨_, rfl⟩
      rw [hn'] at hn ⊢
      have q1 : ((n : Int) == 2) = false := by simp; omega
      clear hk hla hn hn'
      go_wp2_with fail
      go_ret
      exact ⟨by rw [HB.out]; rfl, K2.out⟩
  · have HB : Hid (nameD s = false) := by
      show _ = _
      rw [HD.out, if_neg (fun h => he h.1)]
    have q1 : ((e : Int) == 0) = false := by simp; omega
    clear hk hla he
    go_wp2_with fail
    go_ret
    exact ⟨by rw [HB.out]; rfl, K2.out⟩

end Go.Proofs.YtbbdmmhpbeleoaaDoor

/- utf8.ValidString, in the words of 'Keeps'. -/
namespace Go.Proofs.YtbbdmmhpbeleoaaDoor
open Go Go.RowKit

theorem uValid_any (s : ByteArray) (w : World) (hs : s.size ≤ 9223372036854775807) (hT : Tabs w) : Calls Tryd.prog 63 #[.string s] w fun e w' => e = .returned (.bool (Lib.validD s.data.toList)) ∧ Keeps [] w w' :=
  (Any.utf8_ValidString Tryd.laysValid s w hs hT.utf8).mono fun _ _ h => ⟨h.1, Keeps.ofBelowSize h.2⟩

end Go.Proofs.YtbbdmmhpbeleoaaDoor

/- The program's runes.Valid; a text's check. -/
namespace Go.Proofs.YtbbdmmhpbeleoaaDoor
open Go Go.RowKit

set_option maxRecDepth 100000 in
theorem ruValid_any (s : ByteArray) (w : World) (hs : s.size ≤ 9223372036854775807) (hT : Tabs w) :
    Calls Tryd.prog 58 #[.string s] w fun e w' => e = .returned (.bool (Lib.validD s.data.toList)) ∧ Keeps [] w w' := by
  have HT := hid hT
  clear hT
  go_enter Tryd.func58, Tryd.ntmps58
  go_wp2_with fail
  refine (uValid_any s w hs HT.out).mono ?_
  rintro e w1 ⟨rfl, hk⟩
  have HK := hid hk
  clear hk
  go_wp2_with fail
  go_ret
  exact ⟨rfl, HK.out⟩

theorem textOk_no1 {s : ByteArray} (h : ¬ s.size ≤ 400) : textOk s = false := by unfold textOk; simp [h]
theorem textOk_no2 {s : ByteArray} (h : Lib.validD s.data.toList = false) : textOk s = false := by unfold textOk; simp [h]
theorem textOk_yes {s : ByteArray} (h : s.size ≤ 400) (h2 : Lib.validD s.data.toList = true) : textOk s = decide ((Lib.runeCount s : Int) ≤ 100) := by
  unfold textOk
  rw [h2, decide_eq_true h, Bool.true_and, Bool.true_and, Bool.eq_iff_iff]
  simp
  omega

set_option maxRecDepth 100000 in
theorem vtext_any (s : ByteArray) (w : World) (hs : s.size ≤ 9223372036854775806) (hT : Tabs w) :
    Calls Tryd.prog 53 #[.string s] w fun e w' => e = .returned (.bool (textOk s)) ∧ Keeps [] w w' := by
  have HT := hid hT
  clear hT
  by_cases h4 : s.size ≤ 400
  · have g4 : (s.size : Int) ≤ 400 := by omega
    rcases hv : Lib.validD s.data.toList with _ | _
    · have HB : Hid (textOk s = false) := textOk_no2 hv
      have HV := hid hv
      clear hv
      go_enter Tryd.func53, Tryd.ntmps53
      go_wp2_with fail
      refine (ruValid_any s w (by omega) HT.out).mono ?_
      rintro e w1 ⟨rfl, hk⟩
      rw [HV.out]
      have HK := hid hk
      clear hk
      go_wp2_with fail
      go_ret
      exact ⟨by rw [HB.out]; rfl, HK.out⟩
    · have HB : Hid (textOk s = decide ((Lib.runeCount s : Int) ≤ 100)) := textOk_yes h4 hv
      have HV := hid hv
      clear hv
      go_enter Tryd.func53, Tryd.ntmps53
      go_wp2_with fail
      refine (ruValid_any s w (by omega) HT.out).mono ?_
      rintro e w1 ⟨rfl, hk⟩
      rw [HV.out]
      have HK := hid hk
      clear hk
      go_wp2_with fail
      refine (ruCount_any s _ (by omega)).mono ?_
      rintro e w2 ⟨rfl, hk⟩
      have HK2 : Hid (Keeps [] w w2) := HK.out.trans hk (fun _ _ h => h)
      clear hk HK
      go_wp2_with fail
      go_ret
      exact ⟨by rw [HB.out]; rfl, HK2.out⟩
  · have g4 : (400 : Int) < (s.size : Int) := by omega
    have HB : Hid (textOk s = false) := textOk_no1 h4
    clear h4
    go_enter Tryd.func53, Tryd.ntmps53
    go_wp2_with fail
    go_ret
    exact ⟨by rw [HB.out]; rfl, Keeps.refl [] w⟩

end Go.Proofs.YtbbdmmhpbeleoaaDoor

/- A value's check: the program's, and the document's. (Printed by gen_check.py.) -/
namespace Go.Proofs.YtbbdmmhpbeleoaaDoor
open Go Go.RowKit

theorem checkD_k {v : ValD} {k : Int} (h : v.kind = k) (b : Bool) (hb : (if k = 0 then v.n == 0 && emptyB v.s else if k = 1 then emptyB v.s else if k = 2 then (v.n == 0 || v.n == 1) && emptyB v.s else if k = 3 then v.n == 0 && textOk v.s else if k = 4 then decide (1 ≤ v.n) && decide (v.n ≤ 4) && emptyB v.s else false) = b) : checkD v = b := by
  subst h
  exact hb
theorem eq_no {a b : Int} (h : (a == b) = false) : (b == a) = false := by
  rw [beq_eq_false_iff_ne] at h ⊢
  exact fun e => h e.symm

set_option maxRecDepth 100000 in
theorem vCheck_any (v : ValD) (w : World) (hT : Tabs w) (hs : v.s.size ≤ 9223372036854775806) :
    Calls Tryd.prog 41 #[valV v] w fun e w' => e = .returned (.bool (checkD v)) ∧ Keeps [] w w' := by
  have HT := hid hT
  clear hT
  obtain ⟨k, n, s⟩ := v
  unfold valV
  by_cases k0 : k = 0
  · subst k0
    rcases hn : (n == 0) with _ | _
    all_goals
      have HB := hid (checkD_k (v := ⟨0, n, s⟩) rfl _ rfl)
      simp only [hn] at HB
      go_enter Tryd.func41, Tryd.ntmps41
      go_wp2_with fail
      go_ret
      exact ⟨by rw [HB.out]; rfl, Keeps.K⟩
  by_cases k1 : k = 1
  · subst k1
    have HB := hid (checkD_k (v := ⟨1, n, s⟩) rfl _ rfl)
    go_enter Tryd.func41, Tryd.ntmps41
    go_wp2_with fail
    go_ret
    exact ⟨by rw [HB.out]; rfl, Keeps.K⟩
  by_cases k2 : k = 2
  · subst k2
    rcases hn : (n == 0) with _ | _
    · rcases hm : (n == 1) with _ | _
      all_goals
        have HB := hid (checkD_k (v := ⟨2, n, s⟩) rfl _ rfl)
        simp only [hn, hm] at HB
        go_enter Tryd.func41, Tryd.ntmps41
        go_wp2_with fail
        go_ret
        exact ⟨by rw [HB.out]; rfl, Keeps.K⟩
    · have HB := hid (checkD_k (v := ⟨2, n, s⟩) rfl _ rfl)
      simp only [hn] at HB
      go_enter Tryd.func41, Tryd.ntmps41
      go_wp2_with fail
      go_ret
      exact ⟨by rw [HB.out]; rfl, Keeps.K⟩
  by_cases k3 : k = 3
  · subst k3
    rcases hn : (n == 0) with _ | _
    · have HB := hid (checkD_k (v := ⟨3, n, s⟩) rfl _ rfl)
      simp only [hn] at HB
      go_enter Tryd.func41, Tryd.ntmps41
      go_wp2_with fail
      go_ret
      exact ⟨by rw [HB.out]; rfl, Keeps.K⟩
    · have HB := hid (checkD_k (v := ⟨3, n, s⟩) rfl _ rfl)
      simp only [hn] at HB
      go_enter Tryd.func41, Tryd.ntmps41
      go_wp2_with fail
      refine (vtext_any s _ hs (HT.out.k (by exact Keeps.K))).mono ?_
      rintro e w1 ⟨rfl, hk⟩
      have HK : Hid (Keeps [] w w1) := Keeps.trans (by exact Keeps.K) hk (fun _ _ h => h)
      clear hk
      go_wp2_with fail
      go_ret
      exact ⟨by rw [HB.out]; rfl, HK.out⟩
  by_cases k4 : k = 4
  · subst k4
    have hc : n < 1 ∨ (1 ≤ n ∧ 4 < n) ∨ (1 ≤ n ∧ n ≤ 4) := by omega
    rcases hc with c0 | ⟨c0, c1⟩ | ⟨c0, c1⟩
    · have HB := hid (checkD_k (v := ⟨4, n, s⟩) rfl _ rfl)
      simp only [show decide (1 ≤ n) = false by simp; omega] at HB
      go_enter Tryd.func41, Tryd.ntmps41
      go_wp2_with fail
      go_ret
      exact ⟨by rw [HB.out]; rfl, Keeps.K⟩
    · have HB := hid (checkD_k (v := ⟨4, n, s⟩) rfl _ rfl)
      simp only [show decide (1 ≤ n) = true by simp; omega, show decide (n ≤ 4) = false by simp; omega] at HB
      go_enter Tryd.func41, Tryd.ntmps41
      go_wp2_with fail
      go_ret
      exact ⟨by rw [HB.out]; rfl, Keeps.K⟩
    · have HB := hid (checkD_k (v := ⟨4, n, s⟩) rfl _ rfl)
      simp only [show decide (1 ≤ n) = true by simp; omega, show decide (n ≤ 4) = true by simp; omega] at HB
      go_enter Tryd.func41, Tryd.ntmps41
      go_wp2_with fail
      go_ret
      exact ⟨by rw [HB.out]; rfl, Keeps.K⟩
  have HB : Hid (checkD ⟨k, n, s⟩ = false) := by show (if k = 0 then _ else if k = 1 then _ else if k = 2 then _ else if k = 3 then _ else if k = 4 then _ else false) = false; rw [if_neg k0, if_neg k1, if_neg k2, if_neg k3, if_neg k4]
  have e0 : (k == 0) = false := by simpa using k0
  have e1 : (k == 1) = false := by simpa using k1
  have e2 : (k == 2) = false := by simpa using k2
  have e3 : (k == 3) = false := by simpa using k3
  have e4 : (k == 4) = false := by simpa using k4
  clear k0 k1 k2 k3 k4
  go_enter Tryd.func41, Tryd.ntmps41
  go_wp2_with fail
  go_ret
  exact ⟨by rw [HB.out]; rfl, Keeps.K⟩

set_option maxRecDepth 100000 in
theorem r5Check_any (v : ValD) (w : World) (hT : Tabs w) (hs : v.s.size ≤ 9223372036854775806) :
    Calls Tryd.prog 16 #[valV v] w fun e w' => e = .returned (.bool (checkD v)) ∧ Keeps [] w w' := by
  have HT := hid hT
  clear hT
  obtain ⟨k, n, s⟩ := v
  unfold valV
  by_cases k0 : k = 0
  · subst k0
    rcases hn : (n == 0) with _ | _
    all_goals
      have HB := hid (checkD_k (v := ⟨0, n, s⟩) rfl _ rfl)
      simp only [hn] at HB
      go_enter Tryd.func16, Tryd.ntmps16
      go_wp2_with fail
      go_ret
      exact ⟨by rw [HB.out]; rfl, Keeps.K⟩
  by_cases k1 : k = 1
  · subst k1
    have HB := hid (checkD_k (v := ⟨1, n, s⟩) rfl _ rfl)
    go_enter Tryd.func16, Tryd.ntmps16
    go_wp2_with fail
    go_ret
    exact ⟨by rw [HB.out]; rfl, Keeps.K⟩
  by_cases k2 : k = 2
  · subst k2
    rcases hn : (n == 0) with _ | _
    · rcases hm : (n == 1) with _ | _
      all_goals
        have HB := hid (checkD_k (v := ⟨2, n, s⟩) rfl _ rfl)
        simp only [hn, hm] at HB
        go_enter Tryd.func16, Tryd.ntmps16
        go_wp2_with fail
        go_ret
        exact ⟨by rw [HB.out]; rfl, Keeps.K⟩
    · have HB := hid (checkD_k (v := ⟨2, n, s⟩) rfl _ rfl)
      simp only [hn] at HB
      go_enter Tryd.func16, Tryd.ntmps16
      go_wp2_with fail
      go_ret
      exact ⟨by rw [HB.out]; rfl, Keeps.K⟩
  by_cases k3 : k = 3
  · subst k3
    rcases hn : (n == 0) with _ | _
    · have HB := hid (checkD_k (v := ⟨3, n, s⟩) rfl _ rfl)
      simp only [hn] at HB
      go_enter Tryd.func16, Tryd.ntmps16
      go_wp2_with fail
      go_ret
      exact ⟨by rw [HB.out]; rfl, Keeps.K⟩
    · have HB := hid (checkD_k (v := ⟨3, n, s⟩) rfl _ rfl)
      simp only [hn] at HB
      by_cases h4 : s.size ≤ 400
      · have g4 : (s.size : Int) ≤ 400 := by omega
        rcases hv : Lib.validD s.data.toList with _ | _
        · have HC : Hid (textOk s = false) := textOk_no2 hv
          have HV := hid hv
          clear hv
          go_enter Tryd.func16, Tryd.ntmps16
          go_wp2_with fail
          refine (r1Valid_any s _ (by omega)).mono ?_
          rintro e w1 ⟨rfl, hk⟩
          rw [HV.out]
          have HK : Hid (Keeps [] w w1) := Keeps.trans (by exact Keeps.K) hk (fun _ _ h => h)
          clear hk
          go_wp2_with fail
          go_ret
          exact ⟨by rw [HB.out]; show _ = Ending.returned (.bool (true && textOk s)); rw [HC.out]; rfl, HK.out⟩
        · have HC : Hid (textOk s = decide ((Lib.runeCount s : Int) ≤ 100)) := textOk_yes h4 hv
          have HV := hid hv
          clear hv
          go_enter Tryd.func16, Tryd.ntmps16
          go_wp2_with fail
          refine (r1Valid_any s _ (by omega)).mono ?_
          rintro e w1 ⟨rfl, hk⟩
          rw [HV.out]
          have c2 : w1.cell? ⟨w.heap.size, 2, none⟩ = some (.string s) := hk.cellSome (by go_simp) (by simp)
          have HK : Hid (Keeps [] w w1) := Keeps.trans (by exact Keeps.K) hk (fun _ _ h => h)
          clear hk
          go_wp2_with fail
          refine (r1Count_any s _ (by omega)).mono ?_
          rintro e w2 ⟨rfl, hk⟩
          have HK2 : Hid (Keeps [] w w2) := HK.out.trans hk (fun _ _ h => h)
          clear hk HK
          go_wp2_with fail
          go_ret
          exact ⟨by rw [HB.out]; show _ = Ending.returned (.bool (true && textOk s)); rw [HC.out]; rfl, HK2.out⟩
      · have g4 : (400 : Int) < (s.size : Int) := by omega
        have HC : Hid (textOk s = false) := textOk_no1 h4
        clear h4
        go_enter Tryd.func16, Tryd.ntmps16
        go_wp2_with fail
        go_ret
        exact ⟨by rw [HB.out]; show _ = Ending.returned (.bool (true && textOk s)); rw [HC.out]; rfl, Keeps.K⟩
  by_cases k4 : k = 4
  · subst k4
    have hc : n < 1 ∨ (1 ≤ n ∧ 4 < n) ∨ (1 ≤ n ∧ n ≤ 4) := by omega
    rcases hc with c0 | ⟨c0, c1⟩ | ⟨c0, c1⟩
    · have HB := hid (checkD_k (v := ⟨4, n, s⟩) rfl _ rfl)
      simp only [show decide (1 ≤ n) = false by simp; omega] at HB
      go_enter Tryd.func16, Tryd.ntmps16
      go_wp2_with fail
      go_ret
      exact ⟨by rw [HB.out]; rfl, Keeps.K⟩
    · have HB := hid (checkD_k (v := ⟨4, n, s⟩) rfl _ rfl)
      simp only [show decide (1 ≤ n) = true by simp; omega, show decide (n ≤ 4) = false by simp; omega] at HB
      go_enter Tryd.func16, Tryd.ntmps16
      go_wp2_with fail
      go_ret
      exact ⟨by rw [HB.out]; rfl, Keeps.K⟩
    · have HB := hid (checkD_k (v := ⟨4, n, s⟩) rfl _ rfl)
      simp only [show decide (1 ≤ n) = true by simp; omega, show decide (n ≤ 4) = true by simp; omega] at HB
      go_enter Tryd.func16, Tryd.ntmps16
      go_wp2_with fail
      go_ret
      exact ⟨by rw [HB.out]; rfl, Keeps.K⟩
  have HB : Hid (checkD ⟨k, n, s⟩ = false) := by show (if k = 0 then _ else if k = 1 then _ else if k = 2 then _ else if k = 3 then _ else if k = 4 then _ else false) = false; rw [if_neg k0, if_neg k1, if_neg k2, if_neg k3, if_neg k4]
  have e0 : (k == 0) = false := by simpa using k0
  have e1 : (k == 1) = false := by simpa using k1
  have e2 : (k == 2) = false := by simpa using k2
  have e3 : (k == 3) = false := by simpa using k3
  have e4 : (k == 4) = false := by simpa using k4
  clear k0 k1 k2 k3 k4
  go_enter Tryd.func16, Tryd.ntmps16
  go_wp2_with fail
  go_ret
  exact ⟨by rw [HB.out]; rfl, Keeps.K⟩

end Go.Proofs.YtbbdmmhpbeleoaaDoor
