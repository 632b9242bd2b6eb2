/- Joined of LxN, LxV, LxX, LxY. -/
import Derived.Test.YtbbdmmhpbeleoaaDoorQ11
import Derived.WalkMore
import Derived.Test.YtbbdmmhpbeleoaaDoorQ10
import Derived.Test.YtbbdmmhpbeleoaaDoorQ02
import Derived.Test.YtbbdmmhpbeleoaaDoorQ09
import Derived.Test.YtbbdmmhpbeleoaaDoorQ05

set_option linter.unusedSimpArgs false
set_option linter.unusedVariables false

/- The program's Lex. -/
namespace Go.Proofs.YtbbdmmhpbeleoaaDoor
open Go Go.RowKit

def tokL : Lay TokD where
  size := 4
  pos := by decide
  at_ _ _ cs t := cs = tokC t
  len := fun e => by rw [e]; rfl
  one := fun e u hu => by
    rw [e] at hu
    simp [tokC] at hu
    rcases hu with rfl | rfl | rfl | rfl <;> rfl
  keep := fun e _ _ => e
  mono := fun e _ => e
theorem Tryd.infoTok : (Tryd.prog.info? 90).map (fun i => (i.zero, i.size, i.bytes)) = some (some (.agg #[.int .i64 0, .string ⟨#[]⟩, .int .i64 0, .int .i64 0]), 4, 40) := by kernel_rfl
/-- What a text's tokens are, the place of the first wrong one, how it ends. -/
def lexR (L : List UInt8) : List TokD × Nat × Nat :=
  if 400 < L.length then ([], 400, 7) else match lexL L 0 with
    | .error p => ([], p, 5)
    | .ok ts => (ts, 0, 0)
def LexPost (L : List UInt8) (w : World) (e : Ending) (w' : World) : Prop :=
  ∃ v, e = .returned (.tuple #[v, .int .i64 (lexR L).2.1, .int .i64 (lexR L).2.2]) ∧ ListAt tokL w' (fun b => w.heap.size ≤ b) v (lexR L).1 ∧ Keeps [] w w'

set_option maxRecDepth 100000 in
set_option maxHeartbeats 8000000 in
theorem lxLex_any (s : ByteArray) (w : World) (hT : Tabs w) (hE : Errs w) (hs : s.size ≤ 1000000) :
    Calls Tryd.prog 54 #[.string s] w (LexPost s.data.toList w) := by
  have hl : s.data.toList.length = s.size := Array.length_toList
  by_cases hbig : 400 < s.size
  · have hI : 400 < (s.size : Int) := by omega
    have HR : Hid (lexR s.data.toList = ([], 400, 7)) := by
      show lexR _ = _
      unfold lexR
      rw [if_pos (by rw [hl]; exact hbig)]
    clear hl hbig
    go_enter Tryd.func54, Tryd.ntmps54
    go_wp2_with fail
    go_step3
    go_wp2_with fail
    rw [Exit.noGoto_ret]
    refine bodyPost_ret (v := .tuple #[.slice none 0 0, .int .i64 400, .int .i64 7]) (by simp [results, Tryd.results54, go_sem]) rfl ?_
    exact ⟨_, by rw [HR.out]; rfl, by rw [HR.out]; exact ListAt.nil _ _ _ _, Keeps.refl [] w⟩
  · have hI : (s.size : Int) ≤ 400 := by omega
    have HR : Hid (lexR s.data.toList = match lexL s.data.toList 0 with
        | .error p => ([], p, 5)
        | .ok ts => (ts, 0, 0)) := by
      show lexR _ = _
      unfold lexR
      rw [if_neg (by rw [hl]; exact hbig)]
    obtain ⟨it, hi0, hz0, hz1, hz2⟩ := info_parts Tryd.infoTok
    have HL := hid hl
    have HT := hid hT
    have HE := hid hE
    have hs4 : s.size ≤ 400 := by omega
    clear hl hbig hT hE
    go_enter Tryd.func54, Tryd.ntmps54
    go_wp2_with fail
    go_step3
    go_wp2_with fail
    go_step3
    go_wp2_with fail
    go_loopw [5, 6] (fun v en wr => ∃ (ts : List TokD) (pos e k : Nat) (a : Option Addr) (q : Nat), pos ≤ s.size ∧ k ≤ pos ∧ e ≤ s.size ∧ v = .slice a k q ∧ en = .int .i64 e ∧ w.heap.size < wr.heap.size ∧ Hid (ts.length = k ∧ LexAt s.data.toList ts pos e ∧ OwnAt tokL 90 wr (w.heap.size + 1) (fun b => w.heap.size ≤ b ∧ b ∉ ownB (.slice a k q)) (.slice a k q) ts ∧ wr.heap[w.heap.size]? = some (.stringIter s pos) ∧ Keeps [] w wr)) (fun _ _ wr => s.size - wr.iterPos w.heap.size)
    case atStart => exact ⟨[], 0, 0, 0, none, 0, Nat.zero_le _, Nat.le_refl _, Nat.zero_le _, rfl, rfl, by simp [World.iter], rfl, LexAt.zero _, OwnAt.nil _ _ _ _, World.iter_heap w s 0, (Keeps.refl [] w).alloc _⟩
    case round =>
      obtain ⟨ts, pos, e, k, a, q, hps, hkp, hes, rfl, rfl, hsz, HW⟩ := hrel
      have hit := HW.out.2.2.2.1
      by_cases hp : pos < s.size
      · obtain ⟨n, hn⟩ : ∃ n, (Utf8.decode s pos).2 = n := ⟨_, rfl⟩
        obtain ⟨r, hr⟩ : ∃ r, (Utf8.decode s pos).1 = r := ⟨_, rfl⟩
        obtain ⟨wi, hwi⟩ : ∃ wi, wr.iterAt w.heap.size s (pos + n) = wi := ⟨_, rfl⟩
        have hnx : ∀ ty, (Instr.next (.pointer (some ⟨w.heap.size, 0, none⟩)) true ty).run Tryd.prog wr = _ := fun ty => Lib.run_next_any_at wr w.heap.size s pos ty hit hp
        have hit2 := Lib.iterAt_heap wr w.heap.size s pos (pos + n) hit
        have hkw : Keeps [w.heap.size] wr wi := by
          rw [← hwi]
          exact ⟨rfl, rfl, rfl, by rw [Lib.iterAt_size]; exact Nat.le_refl _, fun i _ hi => Lib.iterAt_other wr w.heap.size i s (pos + n) (by simpa using hi)⟩
        have hszi : wi.heap.size = wr.heap.size := by rw [← hwi, Lib.iterAt_size]
        have hr1 : r ≤ 1114111 := by rw [← hr]; exact Lib.rune_le s pos
        have hn1 : 1 ≤ n := by rw [← hn]; exact Lib.width_pos s pos
        have hpl : pos < s.data.toList.length := by rw [HL.out]; exact hp
        have hne : s.data.toList.drop pos ≠ [] := by simp; omega
        have hn2 : pos + n ≤ s.size := by
          have := wid_le hne
          rw [(clsL_drop s pos).2, hn, List.length_drop, HL.out] at this
          omega
        have HC := hid ((clsL_drop s pos).1)
        have HN := hid ((clsL_drop s pos).2)
        rw [hr] at HC
        rw [hn] at HN
        rw [hwi] at hit2
        simp only [hn, hr, hwi] at hnx
        have HT2 := hid hit2
        have HKW := hid hkw
        have HNE := hid hne
        have HPL := hid hpl
        have hzi : w.heap.size < wi.heap.size := by omega
        have HX : Hid (∀ ty, (Instr.next (.pointer (some ⟨w.heap.size, 0, none⟩)) true ty).run Tryd.prog wr = _) := hnx
        clear hit hit2 hkw hwi hn hr hnx hszi hne hpl
        have hnx := HX.out
        go_wp2_with fail
        refine (ruClass_any r _ hr1).mono ?_
        rintro e' w4 ⟨rfl, hk⟩
        obtain ⟨c, hc⟩ : ∃ c, clsR r = c := ⟨_, rfl⟩
        rw [hc] at HC ⊢
        have hc3 : c ≤ 3 := by
          rw [← hc]
          unfold clsR
          repeat' split
          all_goals decide
        have K4 : Hid (Keeps [w.heap.size] wr w4) := HKW.out.trans hk (fun _ _ h => by cases h)
        have HI : Hid (w4.heap[w.heap.size]? = some (.stringIter s (pos + n))) := (hk.block _ hzi (by simp)).trans HT2.out
        have hz4 : w.heap.size < w4.heap.size := Nat.lt_of_lt_of_le hzi hk.size
        have HOB : Hid (∀ b ∈ ownB (.slice a k q), w.heap.size + 1 ≤ b ∧ b < wr.heap.size) := fun b hb => OwnAt.ge HW.out.2.2.1 b hb
        have HOW : Hid (OwnAt tokL 90 w4 (w.heap.size + 1) (fun b => w.heap.size ≤ b ∧ b ∉ ownB (.slice a k q)) (.slice a k q) ts) := by
          obtain ⟨css, g1, g2⟩ := HW.out.2.2.1
          exact ⟨css, ⟨g1.1, fun i cs x h1 h2 => g1.2 i cs x h1 h2⟩, ownsRow_keeps g2 K4.out (fun b hb hb' => by have := (HOB.out b hb).1; simp at hb'; omega)⟩
        have KW4 : Hid (Keeps [] w w4) := HW.out.2.2.2.2.trans K4.out (fun b h1 h2 => by simp at h2; omega)
        have HLX := hid HW.out.2.1
        have HTL := hid HW.out.1
        clear hk hnx hc
        have i0 : (0 : Int) ≤ (pos : Int) := Int.natCast_nonneg _
        have i1 : (pos : Int) ≤ (s.size : Int) := by omega
        by_cases hpe : pos < e
        · have d1 : (pos : Int) < (e : Int) := by omega
          have HZ : Hid (LexAt s.data.toList ts (pos + n) e) := by
            have := HLX.out.skip HPL.out hpe
            rw [HN.out] at this
            exact this
          clear hpe
          go_wp2_with fail
          go_roundw
          case rel => exact ⟨ts, pos + n, e, k, a, q, hn2, by omega, hes, rfl, rfl, hz4, HTL.out, HZ.out, HOW.out, HI.out, KW4.out⟩
          case measure =>
            simp only [World.iterPos, HI.out, HW.out.2.2.2.1]
            omega
        · have d1 : (e : Int) ≤ (pos : Int) := by omega
          by_cases hc : c = 3
          · have d2 : ((c : Int) == 3) = true := by simp [hc]
            have HZ : Hid (LexAt s.data.toList ts (pos + n) e) := by
              have := HLX.out.space HPL.out hpe (HC.out.trans hc)
              rw [HN.out] at this
              exact this
            clear hpe hc
            go_wp2_with fail
            go_roundw
            case rel => exact ⟨ts, pos + n, e, k, a, q, hn2, by omega, hes, rfl, rfl, hz4, HTL.out, HZ.out, HOW.out, HI.out, KW4.out⟩
            case measure =>
              simp only [World.iterPos, HI.out, HW.out.2.2.2.1]
              omega
          · have d2 : ((c : Int) == 3) = false := by simp; omega
            obtain ⟨m, hm⟩ : ∃ m, s.extract pos s.size = m := ⟨_, rfl⟩
            have hml : m.data.toList = s.data.toList.drop pos := by
              have := extract_str s pos (s.size - pos)
              rw [show pos + (s.size - pos) = s.size by omega, hm] at this
              rw [this]
              exact List.take_of_length_le (by rw [List.length_drop, HL.out]; exact Nat.le_refl _)
            have hmz : m.size = s.size - pos := by rw [← hm, ByteArray.size_extract]; omega
            have HONE := hid (fun w1 hT1 hE1 => lxOne_any m c w1 hT1 hE1 (by omega) (by omega) (by rw [hml]; exact HC.out))
            rw [hml] at HONE
            have HBAD : Hid (oneD (s.data.toList.drop pos) = none → lexL s.data.toList 0 = .error pos) := fun h => HLX.out.bad HPL.out hpe (by rw [HC.out]; exact hc) h
            have HTOK : Hid (∀ t k', oneD (s.data.toList.drop pos) = some (t, k') → LexAt s.data.toList (ts ++ [{ t with at_ := pos }]) (pos + n) (pos + k') ∧ 1 ≤ k' ∧ pos + k' ≤ s.size) := fun t k' h => by
              have h1 := HLX.out.tok HPL.out hpe (by rw [HC.out]; exact hc) h
              rw [HN.out] at h1
              have h2 := oneD_pos HNE.out h
              rw [List.length_drop, HL.out] at h2
              exact ⟨h1, h2.1, by omega⟩
            clear hpe hc hml hmz
            go_wp2_with fail
            refine (HONE.out _ (HT.out.k KW4.out) (HE.out.k KW4.out)).mono ?_
            rintro e' w5 ⟨rfl, hk5⟩
            have K5 := hid hk5
            have z5 : w.heap.size < w5.heap.size := Nat.lt_of_lt_of_le hz4 hk5.size
            clear hk5
            rcases ho : oneD (s.data.toList.drop pos) with _ | ⟨t, k'⟩
            · have HX2 := hid (HBAD.out ho)
              clear ho
              unfold oneV
              dsimp only
              go_wp2_with fail
              rw [Exit.noGoto_ret]
              refine bodyPost_ret (v := .tuple #[.slice none 0 0, .int .i64 pos, .int .i64 5]) (by simp [results, Tryd.results54, go_sem]) rfl ?_
              have hr2 := HR.out
              rw [HX2.out] at hr2
              exact ⟨_, by rw [hr2]; rfl, by rw [hr2]; exact ListAt.nil _ _ _ _, (KW4.out.trans K5.out (fun _ _ h => h)).trans (G := []) (by exact Keeps.K) (fun _ _ h => h)⟩
            · obtain ⟨hlx, hk1, hk2⟩ := HTOK.out t k' ho
              have HLX2 := hid hlx
              have d3 : ((k' : Int) == 0) = false := by simp; omega
              have j0 : (0 : Int) ≤ (k' : Int) := Int.natCast_nonneg _
              have j1 : (pos : Int) + (k' : Int) ≤ 400 := by omega
              have HRW : Hid (((w5.alloc (.cells #[.int .i64 t.kind, .string (str t.s), .int .i64 t.n, .int .i64 pos] 90)).alloc (.cells #[.int .i64 t.kind, .string (str t.s), .int .i64 t.n, .int .i64 pos] 90)).heap[w5.heap.size + 1]? = some (.cells #[.int .i64 t.kind, .string (str t.s), .int .i64 t.n, .int .i64 pos] 90 (0, 0))) := by
                have h1 := heap_alloc_new (w5.alloc (.cells #[.int .i64 t.kind, .string (str t.s), .int .i64 t.n, .int .i64 pos] 90)) (.cells #[.int .i64 t.kind, .string (str t.s), .int .i64 t.n, .int .i64 pos] 90)
                rw [show (w5.alloc (.cells #[.int .i64 t.kind, .string (str t.s), .int .i64 t.n, .int .i64 pos] 90)).heap.size = w5.heap.size + 1 by simp] at h1
                exact h1
              have HOW5 : Hid (OwnAt tokL 90 w5 (w.heap.size + 1) (fun b => w.heap.size ≤ b ∧ b ∉ ownB (.slice a k q)) (.slice a k q) ts) := OwnAt.k HOW.out K5.out
              have HOB5 : Hid (∀ b ∈ ownB (.slice a k q), w.heap.size + 1 ≤ b ∧ b < w5.heap.size) := OwnAt.ge HOW5.out
              have HI5 : Hid (w5.heap[w.heap.size]? = some (.stringIter s (pos + n))) := (K5.out.block _ hz4 (by simp)).trans HI.out
              clear ho hlx
              unfold oneV
              dsimp only
              go_wp2_with (at_builtin; go_must (refine wpList_append_off (L := tokL) (PB := fun _ => False) _ (by rfl) _ _ _ (by rfl) (w.heap.size + 1) 90 it _ 40 Tryd.underlying86 hi0 hz0 hz1 hz2 rfl (R := fun b => w.heap.size ≤ b) (.slice a k q) (by rfl) ts [{ t with at_ := pos }] k HTL.out [[.int .i64 t.kind, .string (str t.s), .int .i64 t.n, .int .i64 pos]] (HOW5.out.k (by exact Keeps.K)) (.slice _ _ _) (by rfl) 1 rfl (ElemsAt.one1 (by show _ = tokC _; rfl)) (Reads.one1 HRW.out rfl) (by omega) (le_maxLen (by omega)) (by exact Nat.le_trans (Nat.succ_le_of_lt z5) (Keeps.size (F := []) (by exact Keeps.K))) (fun b _ hb => hb.elim) ?_; intro a6 q6 w6 ho6 hk6 hv6))
              have KX : Hid (Keeps [] w5 ((w5.alloc (.cells #[.int .i64 t.kind, .string (str t.s), .int .i64 t.n, .int .i64 pos] 90)).alloc (.cells #[.int .i64 t.kind, .string (str t.s), .int .i64 t.n, .int .i64 pos] 90))) := by exact Keeps.K
              have HI6 : Hid (w6.heap[w.heap.size]? = some (.stringIter s (pos + n))) := by
                have h1 := hk6.out.block w.heap.size (Nat.lt_of_lt_of_le z5 KX.out.size) (fun h => by have := (HOB5.out _ h).1; omega)
                exact h1.trans ((KX.out.block _ z5 (by simp)).trans HI5.out)
              have HK6 : Hid (Keeps [] w w6) := ((KW4.out.trans K5.out (fun _ _ h => h)).trans KX.out (fun _ _ h => h)).trans hk6.out (fun b hb hb' => by have := (HOB5.out b hb').1; omega)
              have HZ6 : w.heap.size < w6.heap.size := Nat.lt_of_lt_of_le (Nat.lt_of_lt_of_le z5 KX.out.size) hk6.out.size
              refine ⟨⟨ts ++ [{ t with at_ := pos }], pos + n, pos + k', k + 1, a6, q6, hn2, by omega, hk2, rfl, by simp, HZ6, by rw [List.length_append, HTL.out]; rfl, HLX2.out, ho6.out, HI6.out, HK6.out⟩, ?_⟩
              simp only [World.iterPos, HI6.out, HW.out.2.2.2.1]
              omega
      · have he : pos = s.size := by omega
        subst he
        have hnx : ∀ ty, (Instr.next (.pointer (some ⟨w.heap.size, 0, none⟩)) true ty).run Tryd.prog wr = _ := fun ty => Lib.run_next_end_at wr w.heap.size s s.size ty hit hp
        have HX2 : Hid (lexL s.data.toList 0 = .ok (ts ++ [⟨0, [], 0, s.size⟩])) := by
          have := HW.out.2.1.end_ (by rw [HL.out]; exact hp)
          rw [HL.out] at this
          exact this
        have HTL := hid HW.out.1
        have HOW := hid HW.out.2.2.1
        have HKW := hid HW.out.2.2.2.2
        have HOB : Hid (∀ b ∈ ownB (.slice a k q), w.heap.size + 1 ≤ b ∧ b < wr.heap.size) := fun b hb => OwnAt.ge HOW.out b hb
        have HRW : Hid ((wr.alloc (.cells #[.int .i64 0, .string ⟨#[]⟩, .int .i64 0, .int .i64 s.size] 90)).heap[wr.heap.size]? = some (.cells #[.int .i64 0, .string ⟨#[]⟩, .int .i64 0, .int .i64 s.size] 90 (0, 0))) := heap_alloc_new _ _
        clear hit hp
        go_wp2_with (at_builtin; go_must (refine wpList_append_off (L := tokL) (PB := fun _ => False) _ (by rfl) _ _ _ (by rfl) (w.heap.size + 1) 90 it _ 40 Tryd.underlying86 hi0 hz0 hz1 hz2 rfl (R := fun b => w.heap.size ≤ b) (.slice a k q) (by rfl) ts [⟨0, [], 0, s.size⟩] k HTL.out [[.int .i64 0, .string ⟨#[]⟩, .int .i64 0, .int .i64 s.size]] (HOW.out.k (by exact Keeps.K)) (.slice _ _ _) (by rfl) 1 rfl (ElemsAt.one1 (by show _ = tokC _; rfl)) (Reads.one1 HRW.out rfl) (by omega) (le_maxLen (by omega)) (by exact Nat.le_trans (Nat.succ_le_of_lt hsz) (Keeps.size (F := []) (by exact Keeps.K))) (fun b _ hb => hb.elim) ?_; intro a6 q6 w6 ho6 hk6 hv6))
        rw [Exit.noGoto_ret]
        refine bodyPost_ret (v := .tuple #[.slice a6 (k + 1) q6, .int .i64 0, .int .i64 0]) (by simp [results, Tryd.results54, go_sem]) rfl ?_
        have hr2 := HR.out
        rw [HX2.out] at hr2
        refine ⟨.slice a6 (k + 1) q6, by rw [hr2]; rfl, by rw [hr2]; exact OwnAt.list ho6.out (fun b _ hb => hb.1) (fun b hb => by have := (OwnAt.ge ho6.out b hb).1; omega), ?_⟩
        exact (HKW.out.trans (G := []) (by exact Keeps.K) (fun _ _ h => h)).trans hk6.out (fun b hb hb' => by have := (HOB.out b hb').1; omega)

/-- A token of a row, cell by cell. -/
theorem tok_get {w : World} {P : Nat → Prop} {b off n c : Nat} {l : List TokD} (h : ListAt tokL w P (.slice (some ⟨b, off, none⟩) n c) l) {i : Nat} {t : TokD} (ht : l[i]? = some t) :
    w.cell? ⟨b, off + i * 4, none⟩ = some (.int .i64 t.kind) ∧ w.cell? ⟨b, off + i * 4 + 1, none⟩ = some (.string (str t.s)) ∧ w.cell? ⟨b, off + i * 4 + 2, none⟩ = some (.int .i64 t.n) ∧ w.cell? ⟨b, off + i * 4 + 3, none⟩ = some (.int .i64 t.at_) := by
  obtain ⟨cs, hcs, hcell⟩ := h.get ht
  have hcs : cs = tokC t := hcs
  subst hcs
  exact ⟨hcell 0 _ rfl, hcell 1 _ rfl, hcell 2 _ rfl, hcell 3 _ rfl⟩

end Go.Proofs.YtbbdmmhpbeleoaaDoor

/- Joined of LxT, LxU, LxV, LxW. -/

/- The document's lexer: its class, its place. -/
namespace Go.Proofs.YtbbdmmhpbeleoaaDoor
open Go Go.RowKit

theorem drop_ne {l : List UInt8} {p : Nat} (h : p < l.length) : l.drop p ≠ [] := by
  intro e
  have := congrArg List.length e
  rw [List.length_drop, List.length_nil] at this
  omega
/-- A piece of a row, cell by cell. -/
theorem pc_get {w : World} {P : Nat → Prop} {b off n c : Nat} {l : List Pc} (h : ListAt pcL w P (.slice (some ⟨b, off, none⟩) n c) l) {i : Nat} {x : Pc} (ht : l[i]? = some x) :
    w.cell? ⟨b, off + i * 4, none⟩ = some (.int .i64 x.at_) ∧ w.cell? ⟨b, off + i * 4 + 1, none⟩ = some (.int .i64 x.n) ∧ w.cell? ⟨b, off + i * 4 + 2, none⟩ = some (.int .i32 x.r) ∧ w.cell? ⟨b, off + i * 4 + 3, none⟩ = some (.bool x.bad) := by
  obtain ⟨cs, hcs, hcell⟩ := h.get ht
  have hcs : cs = pcC x := hcs
  subst hcs
  exact ⟨hcell 0 _ rfl, hcell 1 _ rfl, hcell 2 _ rfl, hcell 3 _ rfl⟩
/-- The class ahead; -1 at the end. -/
def clsA (l : List UInt8) : Int := if l = [] then -1 else (clsL l : Int)

end Go.Proofs.YtbbdmmhpbeleoaaDoor

/- The document's lexer, plain: escapes and texts by pieces. -/
namespace Go.Proofs.YtbbdmmhpbeleoaaDoor
open Go

theorem hx_app : ∀ (l m : List UInt8) (u : Nat), hx (l ++ m) u = (hx l u).bind (hx m)
  | [], _, _ => rfl
  | x :: r, m, u => by
    show hx (x :: (r ++ m)) u = (hx (x :: r) u).bind (hx m)
    unfold hx
    rcases hexV x with _ | d
    · rfl
    · exact hx_app r m _
/-- One digit more. -/
theorem hx_next {t : List UInt8} {j v : Nat} (h : hx (t.take j) 0 = some v) {c : UInt8} (hc : t[j]? = some c) : hx (t.take (j + 1)) 0 = (hexV c).map fun d => v * 16 + d := by
  rw [List.take_add_one, hc, hx_app, h]
  show hx [c] v = _
  unfold hx
  rcases hexV c with _ | d <;> rfl
/-- A digit that is none ends it. -/
theorem hx_stop {t : List UInt8} {j : Nat} (h : hx (t.take j) 0 = none) (m : Nat) (hm : j ≤ m) : hx (t.take m) 0 = none := by
  have e : t.take m = t.take j ++ (t.take m).drop j := by
    conv => lhs; rw [← List.take_append_drop j (t.take m)]
    rw [List.take_take, Nat.min_eq_left hm]
  rw [e, hx_app, h]
  rfl
theorem esc_fail {b : UInt8} {t : List UInt8} (h1 : ¬ (b.toNat = 34 ∨ b.toNat = 92)) (h2 : b.toNat = 117) (h : t.length < 4 ∨ hx (t.take 4) 0 = none) (a : UInt8) : (escL (a :: b :: t)).2 = 0 := by
  rcases Nat.lt_or_ge t.length 4 with hl | hl
  · rw [escL_short h1 hl]
  · rcases h with h | h
    · omega
    · rw [escL_hx h1 h2 hl, h]
theorem esc_done {b : UInt8} {t : List UInt8} {v : Nat} (h1 : ¬ (b.toNat = 34 ∨ b.toNat = 92)) (h2 : b.toNat = 117) (hl : 4 ≤ t.length) (h : hx (t.take 4) 0 = some v) (a : UInt8) : escL (a :: b :: t) = if 55296 ≤ v ∧ v ≤ 57343 then (0, 0) else (v, 6) := by
  rw [escL_hx h1 h2 hl, h]
/-- The rune ahead as a digit. -/
theorem hexV_rune {l : List UInt8} (hl : l ≠ []) : ∃ c t, l = c :: t ∧ ((48 ≤ (Lib.decodeL l).1 ∧ (Lib.decodeL l).1 ≤ 57) → hexV c = some ((Lib.decodeL l).1 - 48) ∧ wid l = 1) ∧ ((97 ≤ (Lib.decodeL l).1 ∧ (Lib.decodeL l).1 ≤ 102) → hexV c = some ((Lib.decodeL l).1 - 87) ∧ wid l = 1) ∧ (¬ (48 ≤ (Lib.decodeL l).1 ∧ (Lib.decodeL l).1 ≤ 57) → ¬ (97 ≤ (Lib.decodeL l).1 ∧ (Lib.decodeL l).1 ≤ 102) → hexV c = none) := by
  rcases l with _ | ⟨c, t⟩
  · exact absurd rfl hl
  · refine ⟨c, t, rfl, ?_⟩
    rcases Nat.lt_or_ge c.toNat 128 with h | h
    · have hd := decode_byte c t h
      have hw : wid (c :: t) = 1 := by unfold wid; rw [hd]
      rw [hd, hw]
      dsimp only
      unfold hexV
      refine ⟨fun g => ⟨if_pos g, rfl⟩, fun g => ⟨by rw [if_neg (by omega), if_pos g], rfl⟩, fun g1 g2 => by rw [if_neg g1, if_neg g2]⟩
    · have hge : 128 ≤ (Lib.decodeL (c :: t)).1 := by
        rcases Nat.lt_or_ge (Lib.decodeL (c :: t)).1 128 with g | g
        · obtain ⟨t', ht⟩ := dec_head (l := c :: t) (by simp) g rfl
          injection ht with ht _
          rw [ht, ofNat_toNat _ (by omega)] at h
          omega
        · exact g
      have hn : hexV c = none := by
        unfold hexV
        rw [if_neg (by omega), if_neg (by omega)]
      exact ⟨fun g => by omega, fun g => by omega, fun _ _ => hn⟩
/-- The byte ahead, by the rune ahead. -/
theorem head_rune {l : List UInt8} (hl : l ≠ []) : ∃ c t, l = c :: t ∧ ∀ x, x < 128 → (c.toNat = x ↔ (Lib.decodeL l).1 = x) := by
  rcases l with _ | ⟨c, t⟩
  · exact absurd rfl hl
  · refine ⟨c, t, rfl, fun x hx => ⟨fun h => ?_, fun h => ?_⟩⟩
    · rw [decode_byte c t (by omega)]; exact h
    · obtain ⟨t', ht⟩ := dec_head (l := c :: t) (by simp) (by omega) h
      injection ht with ht _
      rw [ht, ofNat_toNat _ (by omega)]

/-- The document's text, piece by piece: q bytes read, the bytes so far, as so many runes. -/
structure TxAt (l : List UInt8) (q : Nat) (acc : List UInt8) (n : Nat) : Prop where
  le : q ≤ l.length
  rest : ∀ f, (l.drop q).length < f → unqL l = unqGo f (l.drop q) acc q
  runes : ∃ rs, acc = encs rs ∧ rs.length = n ∧ ∀ r ∈ rs, r < 55296 ∨ (57344 ≤ r ∧ r ≤ 1114111)
theorem unq_fuel : ∀ (f g : Nat) (l acc : List UInt8) (p : Nat), l.length < f → l.length < g → unqGo f l acc p = unqGo g l acc p
  | 0, _, _, _, _, h, _ => by omega
  | _, 0, _, _, _, _, h => by omega
  | f + 1, g + 1, l, acc, p, hf, hg => by
    rw [unqGo_succ, unqGo_succ]
    by_cases hl : l = []
    · rw [if_pos hl, if_pos hl]
    · have hpos := List.length_pos_iff.2 hl
      have hw := Lib.decodeL_width l
      have h1 : (l.drop (Lib.decodeL l).2).length < f ∧ (l.drop (Lib.decodeL l).2).length < g := by rw [List.length_drop]; omega
      rw [unq_fuel f g _ (acc ++ Lib.encodeRune ((Lib.decodeL l).1 : Int)) (p + (Lib.decodeL l).2) h1.1 h1.2]
      by_cases he : (escL l).2 = 0
      · simp only [he, if_true]
      · have h2 : (l.drop (escL l).2).length < f ∧ (l.drop (escL l).2).length < g := by rw [List.length_drop]; omega
        rw [unq_fuel f g _ (acc ++ Lib.encodeRune ((escL l).1 : Int)) (p + (escL l).2) h2.1 h2.2]
theorem TxAt.zero {t : List UInt8} : TxAt (34 :: t) 1 [] 0 := ⟨by simp, fun f hf => by
  have hf' : t.length < f := by simpa using hf
  show (if (34 : UInt8).toNat = 34 then unqGo (t.length + 1) t [] 1 else none) = unqGo f t [] 1
  rw [if_pos (by decide)]
  exact unq_fuel _ _ _ _ _ (by omega) hf', ⟨[], rfl, rfl, fun _ h => by cases h⟩⟩
theorem TxAt.at_ {l acc : List UInt8} {q n : Nat} (h : TxAt l q acc n) : unqL l = if l.drop q = [] then none else if (Lib.decodeL (l.drop q)).1 = 34 then some (acc, q + 1)
    else if (Lib.decodeL (l.drop q)).1 = 92 then (if (escL (l.drop q)).2 = 0 then none else unqGo ((l.drop q).length) ((l.drop q).drop (escL (l.drop q)).2) (acc ++ Lib.encodeRune ((escL (l.drop q)).1 : Int)) (q + (escL (l.drop q)).2))
    else if ((Lib.decodeL (l.drop q)).1 = 65533 ∧ (Lib.decodeL (l.drop q)).2 = 1) ∨ ctlR (Lib.decodeL (l.drop q)).1 = true then none
    else unqGo ((l.drop q).length) ((l.drop q).drop (Lib.decodeL (l.drop q)).2) (acc ++ Lib.encodeRune ((Lib.decodeL (l.drop q)).1 : Int)) (q + (Lib.decodeL (l.drop q)).2) := by
  rw [h.rest ((l.drop q).length + 1) (by omega), unqGo_succ]
theorem TxAt.count {l acc : List UInt8} {q n : Nat} (h : TxAt l q acc n) : runesL acc = n := by
  obtain ⟨rs, h1, h2, h3⟩ := h.runes
  rw [h1, runesL_encs rs h3, h2]
theorem TxAt.open_ {l acc : List UInt8} {q n : Nat} (h : TxAt l q acc n) (hq : ¬ q < l.length) : unqL l = none := by
  rw [h.at_, if_pos (by rw [List.drop_of_length_le (by omega)])]
theorem TxAt.close {l acc : List UInt8} {q n : Nat} (h : TxAt l q acc n) (hq : q < l.length) (h34 : (Lib.decodeL (l.drop q)).1 = 34) : unqL l = some (acc, q + 1) ∧ wid (l.drop q) = 1 := by
  have hne : l.drop q ≠ [] := by simp; omega
  rw [h.at_, if_neg hne, if_pos h34]
  exact ⟨rfl, (dec34 hne (by omega) h34).1⟩
theorem TxAt.bad {l acc : List UInt8} {q n : Nat} (h : TxAt l q acc n) (hq : q < l.length) (hb : badL (l.drop q) = true ∨ ctlR (Lib.decodeL (l.drop q)).1 = true) : unqL l = none := by
  have hne : l.drop q ≠ [] := by simp; omega
  have hc : ((Lib.decodeL (l.drop q)).1 = 65533 ∧ (Lib.decodeL (l.drop q)).2 = 1) ∨ ctlR (Lib.decodeL (l.drop q)).1 = true := hb.imp (fun h => (badL_iff _).1 h) id
  have h34 : (Lib.decodeL (l.drop q)).1 ≠ 34 := by
    rcases hc with ⟨h, _⟩ | h
    · omega
    · intro e; rw [e] at h; exact absurd h (by decide)
  have h92 : (Lib.decodeL (l.drop q)).1 ≠ 92 := by
    rcases hc with ⟨h, _⟩ | h
    · omega
    · intro e; rw [e] at h; exact absurd h (by decide)
  rw [h.at_, if_neg hne, if_neg h34, if_neg h92, if_pos hc]
theorem TxAt.escBad {l acc : List UInt8} {q n : Nat} (h : TxAt l q acc n) (hq : q < l.length) (h92 : (Lib.decodeL (l.drop q)).1 = 92) (he : (escL (l.drop q)).2 = 0) : unqL l = none := by
  have hne : l.drop q ≠ [] := by simp; omega
  rw [h.at_, if_neg hne, if_neg (by omega), if_pos h92, if_pos he]
theorem TxAt.esc {l acc : List UInt8} {q n : Nat} (h : TxAt l q acc n) (hq : q < l.length) (h92 : (Lib.decodeL (l.drop q)).1 = 92) (he : (escL (l.drop q)).2 ≠ 0) (hv : (escL (l.drop q)).1 < 55296 ∨ (57344 ≤ (escL (l.drop q)).1 ∧ (escL (l.drop q)).1 ≤ 1114111)) : TxAt l (q + (escL (l.drop q)).2) (acc ++ Lib.encodeRune ((escL (l.drop q)).1 : Int)) (n + 1) := by
  have hne : l.drop q ≠ [] := by simp; omega
  have hle := (escL_le (l.drop q)).1
  rw [List.length_drop] at hle
  refine ⟨by omega, fun f hf => ?_, ?_⟩
  · rw [h.at_, if_neg hne, if_neg (by omega), if_pos h92, if_neg he, List.drop_drop]
    rw [List.length_drop] at hf
    exact unq_fuel (l.drop q).length f _ _ _ (by rw [List.length_drop, List.length_drop]; omega) (by rw [List.length_drop]; omega)
  · obtain ⟨rs, h1, h2, h3⟩ := h.runes
    refine ⟨rs ++ [(escL (l.drop q)).1], by rw [encs_snoc, h1], by simp [h2], fun r hr => ?_⟩
    rcases List.mem_append.1 hr with hr | hr
    · exact h3 r hr
    · obtain rfl : r = _ := by simpa using hr
      exact hv
theorem TxAt.step {l acc : List UInt8} {q n : Nat} (h : TxAt l q acc n) (hq : q < l.length) (h34 : (Lib.decodeL (l.drop q)).1 ≠ 34) (h92 : (Lib.decodeL (l.drop q)).1 ≠ 92) (hb : ¬ (badL (l.drop q) = true ∨ ctlR (Lib.decodeL (l.drop q)).1 = true)) : TxAt l (q + wid (l.drop q)) (acc ++ Lib.encodeRune ((Lib.decodeL (l.drop q)).1 : Int)) (n + 1) := by
  have hne : l.drop q ≠ [] := by simp; omega
  have hw := wid_le hne
  have hwp := wid_pos (l.drop q)
  rw [List.length_drop] at hw
  have hc : ¬ (((Lib.decodeL (l.drop q)).1 = 65533 ∧ (Lib.decodeL (l.drop q)).2 = 1) ∨ ctlR (Lib.decodeL (l.drop q)).1 = true) := fun g => hb (g.imp (fun h => (badL_iff _).2 h) id)
  refine ⟨by omega, fun f hf => ?_, ?_⟩
  · rw [h.at_, if_neg hne, if_neg h34, if_neg h92, if_neg hc, List.drop_drop]
    rw [List.length_drop] at hf
    have e : (Lib.decodeL (l.drop q)).2 = wid (l.drop q) := rfl
    rw [e]
    exact unq_fuel (l.drop q).length f _ _ _ (by rw [List.length_drop, List.length_drop]; omega) (by rw [List.length_drop]; omega)
  · obtain ⟨rs, h1, h2, h3⟩ := h.runes
    refine ⟨rs ++ [(Lib.decodeL (l.drop q)).1], by rw [encs_snoc, h1], by simp [h2], fun r hr => ?_⟩
    rcases List.mem_append.1 hr with hr | hr
    · exact h3 r hr
    · obtain rfl : r = _ := by simpa using hr
      exact decodeL_valid _
/-- What the escape gives is a rune. -/
theorem esc_rune (l : List UInt8) : (escL l).1 < 55296 ∨ (57344 ≤ (escL l).1 ∧ (escL l).1 ≤ 1114111) := by
  rcases (escL_le l).2.2 with h | h
  · exact .inl h
  · exact .inr (by omega)
theorem encs_len : ∀ (rs : List Nat), (encs rs).length ≤ 4 * rs.length
  | [] => by simp [encs]
  | r :: rs => by
    have h := encs_len rs
    have h1 := Lib.runeCells_le (r : Int)
    rw [Lib.runeCells_length] at h1
    show (Lib.encodeRune (r : Int) ++ encs rs).length ≤ _
    rw [List.length_append, List.length_cons]
    omega
theorem TxAt.len {l acc : List UInt8} {q n : Nat} (h : TxAt l q acc n) : acc.length ≤ 4 * n := by
  obtain ⟨rs, h1, h2, _⟩ := h.runes
  rw [h1, ← h2]
  exact encs_len rs
/-- Pieces and places rise together. -/
theorem PAt.uniq {l : List UInt8} {k p q : Nat} (h : PAt l k p) (g : PAt l k q) : p = q := by
  by_cases hk : k < (pieces l).length
  · have h1 := (h.next hk).1
    rw [(g.next hk).1] at h1
    injection h1 with h1
    injection h1 with h1 _
    exact h1.symm
  · rw [h.end_ hk, g.end_ hk]
theorem PAt.on {l : List UInt8} {k p : Nat} (h : PAt l k p) : ∀ (j : Nat), k + j ≤ (pieces l).length → ∃ q, p ≤ q ∧ PAt l (k + j) q
  | 0, _ => ⟨p, Nat.le_refl _, h⟩
  | j + 1, hj => by
    obtain ⟨q, h1, h2⟩ := h.on j (by omega)
    exact ⟨_, Nat.le_trans h1 (Nat.le_add_right _ _), (h2.next (by omega)).2⟩
theorem PAt.rise {l : List UInt8} {k k' p p' : Nat} (h : PAt l k p) (h' : PAt l k' p') (hp : p < p') : k < k' := by
  rcases Nat.lt_or_ge k k' with g | g
  · exact g
  · obtain ⟨q, h1, h2⟩ := h'.on (k - k') (by have := h.1; omega)
    rw [show k' + (k - k') = k by omega] at h2
    have := h.uniq h2
    omega
/-- The token ahead is a text. -/
theorem one_text_at {l : List UInt8} (h : l.head? = some 34) : oneD l = match unqL l with
    | none => none
    | some (t, k) => if runesL t ≤ 100 then some (⟨2, t, 0, 0⟩, k) else none := by
  rcases l with _ | ⟨c, t⟩
  · cases h
  · obtain rfl : c = 34 := by simpa using h
    have hc : clsL (34 :: t) = 0 := by
      unfold clsL
      rw [decode_byte 34 t (by decide)]
      decide
    unfold oneD
    rw [if_neg (by rw [hc]; decide), if_neg (by rw [hc]; decide), if_pos (show (34 :: t).head? = some 34 from rfl)]
    rfl

end Go.Proofs.YtbbdmmhpbeleoaaDoor

/- The document's lexer: a number, a name. -/
namespace Go.Proofs.YtbbdmmhpbeleoaaDoor
open Go Go.RowKit

/-- Which piece is next, as the memory has it. -/
def ixAt (w : World) (n : Nat) : Nat := match w.cell? ⟨n, 2, none⟩ with
  | some (.int _ i) => i.toNat
  | _ => 0
/-- The digits so far. -/
def NumSt (ok : Bool) (N V : Nat) : Prop := (ok = true ∧ N = V) ∨ (ok = false ∧ 9223372036854775807 < V)

end Go.Proofs.YtbbdmmhpbeleoaaDoor

/- The document's lexer: a name. -/
namespace Go.Proofs.YtbbdmmhpbeleoaaDoor
open Go Go.RowKit

end Go.Proofs.YtbbdmmhpbeleoaaDoor

/- The document's lexer: an escape. -/
namespace Go.Proofs.YtbbdmmhpbeleoaaDoor
open Go Go.RowKit

theorem hx_lt' : ∀ (l : List UInt8) (u v : Nat), hx l u = some v → v < (u + 1) * 16 ^ l.length
  | [], u, v, h => by
    injection h with h
    subst h
    simp
  | x :: r, u, v, h => by
    unfold hx at h
    rcases hd : hexV x with _ | d
    · rw [hd] at h; cases h
    · rw [hd] at h
      have h16 := hexV_lt hd
      have := hx_lt' r (u * 16 + d) v h
      rw [List.length_cons, Nat.pow_succ, Nat.mul_comm (16 ^ r.length), ← Nat.mul_assoc]
      exact Nat.lt_of_lt_of_le this (Nat.mul_le_mul_right _ (by omega))
end Go.Proofs.YtbbdmmhpbeleoaaDoor

/- The document's lexer: a text. -/
namespace Go.Proofs.YtbbdmmhpbeleoaaDoor
open Go Go.RowKit

theorem str_app (a b : List UInt8) : str a ++ str b = str (a ++ b) := by
  refine ByteArray.ext ?_
  rw [ByteArray.data_append]
  show a.toArray ++ b.toArray = (a ++ b).toArray
  simp
end Go.Proofs.YtbbdmmhpbeleoaaDoor
