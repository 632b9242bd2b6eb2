/- The document's Lex. -/
import Derived.Test.YtnjdepojmnniaaaGreatDoorLxY
import Derived.Test.YtnjdepojmnniaaaGreatDoorLxZ
import Derived.Test.YtnjdepojmnniaaaGreatDoorLxN

set_option linter.unusedSimpArgs false
set_option linter.unusedVariables false
namespace Go.Proofs.YtnjdepojmnniaaaGreatDoor
open Go Go.RowKit

/-- The lexer's loop, in memory: the tokens so far lie in v, the lexer at block n stands ahead of piece k, byte p. -/
structure RL (s : ByteArray) (n : Nat) (pa : Option Addr) (pq : Nat) (w wr : World) (ts : List TokD) (k p : Nat) (v : Value) : Prop where
  place : PAt s.data.toList k p
  lex : LAt wr n s pa pq k
  rest : lexL s.data.toList 0 = match lexL (s.data.toList.drop p) p with
    | .error q => .error q
    | .ok us => .ok (ts ++ us)
  few : ts.length ≤ p
  own : OwnAt tokL 93 wr (n + 1) (fun b => n + 1 ≤ b ∧ b ∉ ownB v) v ts
  keeps : Keeps [] w wr
  new_ : w.heap.size ≤ n
theorem RL.ownK {s : ByteArray} {n : Nat} {pa : Option Addr} {pq : Nat} {w wr w' : World} {ts : List TokD} {k p : Nat} {v : Value} (H : RL s n pa pq w wr ts k p v) (c : Keeps [n] wr w') : OwnAt tokL 93 w' (n + 1) (fun b => n + 1 ≤ b ∧ b ∉ ownB v) v ts :=
  H.own.keep c (fun b hb hb' => by have := (OwnAt.ge H.own b hb).1; simp at hb'; omega) (fun b hb hb' => by simp at hb'; omega)
theorem RL.keepsN {s : ByteArray} {n : Nat} {pa : Option Addr} {pq : Nat} {w wr w' : World} {ts : List TokD} {k p : Nat} {v : Value} (H : RL s n pa pq w wr ts k p v) (c : Keeps [n] wr w') : Keeps [] w w' :=
  H.keeps.trans c (fun b hb hb' => by simp at hb'; have := H.new_; omega)
theorem RL.k {s : ByteArray} {n : Nat} {pa : Option Addr} {pq : Nat} {w wr w' : World} {ts : List TokD} {k p : Nat} {v : Value} (H : RL s n pa pq w wr ts k p v) (c : Keeps [] wr w') : RL s n pa pq w w' ts k p v :=
  ⟨H.place, H.lex.k c, H.rest, H.few, H.own.k c, H.keeps.trans c (fun _ _ h => h), H.new_⟩
/-- A blank is passed. -/
theorem RL.space {s : ByteArray} {n : Nat} {pa : Option Addr} {pq : Nat} {w wr : World} {ts : List TokD} {k p : Nat} {v : Value} (H : RL s n pa pq w wr ts k p v) (hk : k < (pieces s.data.toList).length) (hc : clsL (s.data.toList.drop p) = 3) (w' : World) (hl : LAt w' n s pa pq (k + 1)) (c : Keeps [n] wr w') : RL s n pa pq w w' ts (k + 1) (p + wid (s.data.toList.drop p)) v := by
  have hne := drop_ne (H.place.lt hk)
  have hr := H.rest
  rw [lexL_space hne hc, List.drop_drop] at hr
  exact ⟨(H.place.next hk).2, hl, hr, by have := H.few; omega, H.ownK c, H.keepsN c, H.new_⟩
/-- The class ahead tells whether there is a piece. -/
theorem clsA_in {s : ByteArray} {k p : Nat} (hp : PAt s.data.toList k p) {c : Nat} (h : clsA (s.data.toList.drop p) = (c : Int)) : k < (pieces s.data.toList).length ∧ clsL (s.data.toList.drop p) = c := by
  rcases Nat.lt_or_ge k (pieces s.data.toList).length with g | g
  · refine ⟨g, ?_⟩
    unfold clsA at h
    rw [if_neg (drop_ne (hp.lt g))] at h
    omega
  · have := hp.end_ (by omega)
    rw [this, List.drop_of_length_le (Nat.le_refl _), show clsA [] = -1 from rfl] at h
    omega
theorem clsL_le (l : List UInt8) : clsL l ≤ 3 := by
  unfold clsL clsR
  repeat' split
  all_goals decide

set_option maxRecDepth 100000 in
set_option maxHeartbeats 8000000 in
theorem r6Lex_any (s : ByteArray) (w : World) (hs : s.size ≤ 1000000) :
    Calls Tryz.prog 81 #[.string s] w (LexPost s.data.toList w) := by
  have hl : s.data.toList.length = s.size := Array.length_toList
  by_cases hbig : 400 < s.size
  · have hI : 400 < (s.size : Int) := by omega
    have HR : Hid (lexR s.data.toList = ([], 400, 7)) := by
      show lexR _ = _
      unfold lexR
      rw [if_pos (by rw [hl]; exact hbig)]
    clear hl hbig
    go_enter Tryz.func81, Tryz.ntmps81
    go_wp2_with fail
    refine bodyPost_ret (v := .tuple #[.slice none 0 0, .int .i64 400, .int .i64 7]) (by simp [results, Tryz.results81, go_sem]) rfl ?_
    exact ⟨_, by rw [HR.out]; rfl, by rw [HR.out]; exact ListAt.nil _ _ _ _, Keeps.refl [] w⟩
  · have hI : (s.size : Int) ≤ 400 := by omega
    have hs4 : s.size ≤ 400 := by omega
    have HR : Hid (lexR s.data.toList = match lexL s.data.toList 0 with
        | .error p => ([], p, 5)
        | .ok ts => (ts, 0, 0)) := by
      show lexR _ = _
      unfold lexR
      rw [if_neg (by rw [hl]; exact hbig)]
      rcases lexL s.data.toList 0 with q | ts <;> rfl
    obtain ⟨it, hi0, hz0, hz1, hz2⟩ := info_parts Tryz.infoTok
    have HL := hid hl
    clear hl hbig
    go_enter Tryz.func81, Tryz.ntmps81
    go_wp2_with fail
    refine (pieces_any s _ hs).mono ?_
    rintro e w1 ⟨pa, pq, rfl, hpcs, hk1⟩
    have K1 := hid hk1
    have HPCS := hid (fresh_pcs hpcs)
    clear hk1 hpcs
    go_wp2_with fail
    have HL1 : Hid (LAt (w1.alloc (.cells #[.string s, .slice pa (pieces s.data.toList).length pq, .int .i64 0] 136)) w1.heap.size s pa pq 0) := ⟨heap_alloc_new _ _, (HPCS.out.mono (fun b hb _ => hb)).k (by exact Keeps.K)⟩
    have hnz : w.heap.size ≤ w1.heap.size := K1.out.size
    obtain ⟨n, hn⟩ : ∃ n, w1.heap.size = n := ⟨_, rfl⟩
    go_loopw [6] (fun v wr => ∃ (ts : List TokD) (c k p : Nat) (a : Option Addr) (q : Nat), ts.length = c ∧ v = .slice a c q ∧ w1.heap.size < wr.heap.size ∧ Hid (RL s w1.heap.size pa pq w wr ts k p (.slice a c q))) (fun _ wr => (pieces s.data.toList).length - ixAt wr w1.heap.size)
    case atStart =>
      refine ⟨[], 0, 0, 0, none, 0, rfl, rfl, by simp, PAt.zero _, HL1.out, ?_, Nat.le_refl _, OwnAt.nil _ _ _ _, (K1.out.alloc _), hnz⟩
      rw [List.drop_zero]
      rcases lexL s.data.toList 0 with q | us <;> rfl
    case round =>
      clear hn
      obtain ⟨ts, c, k, p, a, q, htc, rfl, hsz, HW⟩ := hrel
      have HTC := hid htc
      clear htc
      go_wp2_with fail
      go_loopw [] (fun w5 => ∃ (k5 p5 : Nat), w1.heap.size < w5.heap.size ∧ k ≤ k5 ∧ Hid (RL s w1.heap.size pa pq w w5 ts k5 p5 (.slice a c q))) (fun w5 => (pieces s.data.toList).length - ixAt w5 w1.heap.size)
      case atStart => exact ⟨k, p, hsz, Nat.le_refl _, HW.out⟩
      case round =>
        rename_i w5 _
        obtain ⟨k5, p5, hsz5, hk5, HV⟩ := hrel
        have hkp := HV.out.place.le
        have hL := HL.out
        have k0 : (0 : Int) ≤ (k5 : Int) := Int.natCast_nonneg _
        have k1 : (k5 : Int) ≤ 400 := by omega
        obtain ⟨cl, hcl⟩ : ∃ cl, clsA (s.data.toList.drop p5) = cl := ⟨_, rfl⟩
        have HC := hid (fun w1' (h1 : LAt w1' w1.heap.size s pa pq k5) => r6class_any s w1.heap.size pa pq k5 p5 w1' h1 HV.out.place)
        rw [hcl] at HC
        have HCL := hid hcl
        clear hcl hL
        go_wp2_with fail
        refine (HC.out _ (HV.out.lex.k (by exact Keeps.K))).mono ?_
        rintro e w6 ⟨rfl, hk⟩
        have K6 := hid hk
        have HV6 := hid (HV.out.k hk)
        have hsz6 : w1.heap.size < w6.heap.size := HV6.out.lex.lt
        clear hk
        by_cases h3 : cl = 3
        · subst h3
          obtain ⟨hkm, hc3⟩ := clsA_in (c := 3) HV.out.place HCL.out
          obtain ⟨⟨c0, c1, c2⟩, f2⟩ := HV6.out.lex.cells
          have HKM := hid hkm
          have HC3 := hid hc3
          clear hkm hc3
          go_wp2_with fail
          have HLL : LAt (w6.setCell ⟨w1.heap.size, 2, none⟩ (.int .i64 ((k5 : Int) + 1))) w1.heap.size s pa pq (k5 + 1) := HV6.out.lex.go (by push_cast; rfl)
          refine ⟨⟨k5 + 1, _, HLL.lt, by omega, HV6.out.space HKM.out HC3.out _ HLL (by exact Keeps.K)⟩, ?_⟩
          rw [HLL.ix, HV.out.lex.ix]
          have := HKM.out
          omega
        · have n3 : (cl == 3) = false := by simp; exact h3
          go_wp2_with fail
          refine (HC.out _ (HV6.out.lex.k (by exact Keeps.K))).mono ?_
          rintro e w7 ⟨rfl, hk⟩
          have K7 := hid hk
          have HV7 := hid (HV6.out.k hk)
          have hsz7 : w1.heap.size < w7.heap.size := HV7.out.lex.lt
          clear hk
          by_cases hneg : cl < 0
          · have hend : ¬ k5 < (pieces s.data.toList).length := fun h => by
              have := HCL.out
              unfold clsA at this
              rw [if_neg (drop_ne (HV7.out.place.lt h))] at this
              omega
            have HE : Hid (lexL s.data.toList 0 = .ok (ts ++ [⟨0, [], 0, s.size⟩])) := by
              have h1 := HV7.out.rest
              have h2 := HV7.out.place.end_ hend
              rw [h2, List.drop_of_length_le (Nat.le_refl _), lexL_nil, HL.out] at h1
              exact h1
            have hfw : c ≤ 400 := by have := HV7.out.few; rw [HTC.out] at this; have := HL.out; omega
            have hnegI : (cl < 0) = True := eq_true hneg
            have HRW : Hid ((w7.alloc (.cells #[.int .i64 0, .string ⟨#[]⟩, .int .i64 0, .int .i64 s.size] 93)).heap[w7.heap.size]? = some (.cells #[.int .i64 0, .string ⟨#[]⟩, .int .i64 0, .int .i64 s.size] 93 (0, 0))) := heap_alloc_new _ _
            have HOB : Hid (∀ b ∈ ownB (.slice a c q), w1.heap.size + 1 ≤ b ∧ b < w7.heap.size) := fun b hb => OwnAt.ge HV7.out.own b hb
            clear hend h3 n3
            go_wp2_with (at_builtin; go_must (refine wpList_append_off (L := tokL) (PB := fun _ => False) _ (by rfl) _ _ _ (by rfl) (w1.heap.size + 1) 93 it _ 40 Tryz.underlying89 hi0 hz0 hz1 hz2 rfl (R := fun b => w1.heap.size + 1 ≤ b) (.slice a c q) (by rfl) ts [⟨0, [], 0, s.size⟩] c HTC.out [[.int .i64 0, .string ⟨#[]⟩, .int .i64 0, .int .i64 s.size]] (HV7.out.own.k (by exact Keeps.K)) (.slice _ _ _) (by rfl) 1 rfl (ElemsAt.one1 (by show _ = tokC _; rfl)) (Reads.one1 HRW.out rfl) (by omega) (le_maxLen (by omega)) (by exact Nat.le_trans (Nat.succ_le_of_lt hsz7) (Keeps.size (F := []) (by exact Keeps.K))) (fun b _ hb => hb.elim) ?_; intro a6 q6 w6 ho6 hk6 hv6))
            refine bodyPost_ret (v := .tuple #[.slice a6 (c + 1) q6, .int .i64 0, .int .i64 0]) (by simp [results, Tryz.results81, go_sem]) rfl ?_
            have hr2 := HR.out
            rw [HE.out] at hr2
            refine ⟨.slice a6 (c + 1) q6, by rw [hr2]; rfl, by rw [hr2]; exact OwnAt.list ho6.out (fun b _ hb => by have := hb.1; omega) (fun b hb => by have := (OwnAt.ge ho6.out b hb).1; omega), ?_⟩
            exact (HV7.out.keeps.trans (G := []) (by exact Keeps.K) (fun _ _ h => h)).trans hk6.out (fun b hb hb' => by have := (HOB.out b hb').1; omega)
          · obtain ⟨cn, rfl⟩ : ∃ cn : Nat, cl = cn := ⟨cl.toNat, by omega⟩
            obtain ⟨hkm, hcn⟩ := clsA_in HV7.out.place HCL.out
            have hne := drop_ne (HV7.out.place.lt hkm)
            have hc3 := clsL_le (s.data.toList.drop p5)
            rw [hcn] at hc3
            have hnegI : ((cn : Int) < 0) = False := eq_false hneg
            obtain ⟨hx, hpn⟩ := HV7.out.place.next hkm
            obtain ⟨b, off, rfl, hbn, _, hq⟩ := HV7.out.lex.addr hkm
            obtain ⟨⟨c0, c1, c2⟩, f2⟩ := HV7.out.lex.cells
            obtain ⟨_, _, y2, y3⟩ := pc_get HV7.out.lex.list hx
            dsimp only at y2 y3
            obtain ⟨hb, tl, hct, hru⟩ := head_rune hne
            have h34 : (Lib.decodeL (s.data.toList.drop p5)).1 = 34 → badL (s.data.toList.drop p5) = false ∧ (s.data.toList.drop p5).head? = some 34 := fun h => by
              have h1 := (dec34 hne (by decide) h).2
              refine ⟨?_, ?_⟩
              · rcases hb : badL (s.data.toList.drop p5) with _ | _
                · rfl
                · exact absurd ((badL_iff _).1 hb) h1
              · have := (hru 34 (by decide)).2 h
                rw [hct]
                exact congrArg some (UInt8.toNat_inj.1 this)
            have h34' : (Lib.decodeL (s.data.toList.drop p5)).1 ≠ 34 → (s.data.toList.drop p5).head? ≠ some 34 := fun h h2 => by
              rw [hct] at h2
              obtain rfl : hb = 34 := by simpa using h2
              exact h ((hru 34 (by decide)).1 rfl)
            obtain ⟨r, hr⟩ : ∃ r, (Lib.decodeL (s.data.toList.drop p5)).1 = r := ⟨_, rfl⟩
            obtain ⟨bd, hbd⟩ : ∃ bd, badL (s.data.toList.drop p5) = bd := ⟨_, rfl⟩
            rw [hr] at y2 h34 h34'
            rw [hbd] at y3 h34
            have H34 := hid h34
            have H34' := hid h34'
            have HKM := hid hkm
            have HCN := hid hcn
            have HNE := hid hne
            have HC3 : Hid (clsL (s.data.toList.drop p5) ≠ 3) := by
              show _ ≠ _
              rw [hcn]
              omega
            have hkmI : (k5 : Int) < ((pieces s.data.toList).length : Int) := by omega
            have hb7 : b < w7.heap.size := by omega
            have hcs : cn = 2 ∨ cn = 1 ∨ (cn = 0 ∧ r = 34) ∨ (cn = 0 ∧ r ≠ 34) := by omega
            clear hkm hcn hne hc3 hx hpn hct hru h34 h34' hr hbd hneg h3 n3
            rcases hcs with rfl | rfl | ⟨rfl, hr⟩ | ⟨rfl, hr⟩
            case' inl =>
              go_wp2_with fail
              obtain ⟨w8, hw8⟩ : ∃ w8, w7.alloc (.cells #[.int .i64 0, .string ⟨#[]⟩, .int .i64 0, .int .i64 0] 93) = w8 := ⟨_, rfl⟩
              have HZ8 : Hid (w8.heap[w7.heap.size]? = some (.cells #[.int .i64 0, .string ⟨#[]⟩, .int .i64 0, .int .i64 0] 93 (0, 0))) := by rw [← hw8]; exact heap_alloc_new _ _
              have K8 : Hid (Keeps [] w7 w8) := by rw [← hw8]; exact Keeps.K
              rw [hw8]
              clear hw8
              refine (r6num_any s _ _ pq k5 p5 _ (HV7.out.lex.k K8.out) HV7.out.place HKM.out HCN.out hs4).mono ?_
            case' inr.inl =>
              go_wp2_with fail
              obtain ⟨w8, hw8⟩ : ∃ w8, w7.alloc (.cells #[.int .i64 0, .string ⟨#[]⟩, .int .i64 0, .int .i64 0] 93) = w8 := ⟨_, rfl⟩
              have HZ8 : Hid (w8.heap[w7.heap.size]? = some (.cells #[.int .i64 0, .string ⟨#[]⟩, .int .i64 0, .int .i64 0] 93 (0, 0))) := by rw [← hw8]; exact heap_alloc_new _ _
              have K8 : Hid (Keeps [] w7 w8) := by rw [← hw8]; exact Keeps.K
              rw [hw8]
              clear hw8
              refine (r6name_any s _ _ pq k5 p5 _ (HV7.out.lex.k K8.out) HV7.out.place HKM.out HCN.out hs4).mono ?_
            case' inr.inr.inl =>
              subst hr
              obtain ⟨rfl, hh⟩ := H34.out rfl
              have HH34 := hid hh
              clear hh
              go_wp2_with fail
              go_quiet (fail)
              go_wp2_with fail
              obtain ⟨w8, hw8⟩ : ∃ w8, (w7.alloc (.cells #[.int .i64 0, .string ⟨#[]⟩, .int .i64 0, .int .i64 0] 93)).drewN nq = w8 := ⟨_, rfl⟩
              have HZ8 : Hid (w8.heap[w7.heap.size]? = some (.cells #[.int .i64 0, .string ⟨#[]⟩, .int .i64 0, .int .i64 0] 93 (0, 0))) := by rw [← hw8]; exact heap_alloc_new w7 _
              have K8 : Hid (Keeps [] w7 w8) := by rw [← hw8]; exact Keeps.K
              rw [hw8]
              clear hw8
              refine (r6text_any s _ _ pq k5 p5 _ (HV7.out.lex.k K8.out) HV7.out.place HKM.out HH34.out hs4).mono ?_
            case' inr.inr.inr =>
              have HH34 := hid (H34'.out hr)
              have n34 : ((r : Int) == 34) = false := by simp; omega
              clear hr
              go_wp2_with fail
              go_quiet (fail)
              go_wp2_with fail
              obtain ⟨w8, hw8⟩ : ∃ w8, (w7.alloc (.cells #[.int .i64 0, .string ⟨#[]⟩, .int .i64 0, .int .i64 0] 93)).drewN nq = w8 := ⟨_, rfl⟩
              have HZ8 : Hid (w8.heap[w7.heap.size]? = some (.cells #[.int .i64 0, .string ⟨#[]⟩, .int .i64 0, .int .i64 0] 93 (0, 0))) := by rw [← hw8]; exact heap_alloc_new w7 _
              have K8 : Hid (Keeps [] w7 w8) := by rw [← hw8]; exact Keeps.K
              rw [hw8]
              clear hw8
              refine (r6sign_any s _ _ pq k5 p5 _ (HV7.out.lex.k K8.out) HV7.out.place HKM.out HCN.out HH34.out hs4).mono ?_
            all_goals
              rintro e w9 hpost
              unfold TokPost at hpost
              rcases ho : oneD (s.data.toList.drop p5) with _ | ⟨t, d⟩
              · rw [ho] at hpost
                obtain ⟨kd, ss, nn, rfl, hk9⟩ := hpost
                have HE : Hid (lexL s.data.toList 0 = .error p5) := by
                  have h1 := HV7.out.rest
                  rw [lexL_bad HNE.out HC3.out ho] at h1
                  exact h1
                have K9 : Hid (Keeps [] w w9) := HV7.out.keepsN ((K8.out.mono (G := [w1.heap.size]) (fun _ _ h => by cases h)).trans hk9 (fun _ _ h => h))
                have hz9 := (hk9.block _ (Array.getElem?_eq_some_iff.1 HZ8.out).1 (by simp; omega)).trans HZ8.out
                obtain ⟨⟨z0, z1, z2, z3⟩, fz⟩ := blk4 hz9
                have hn7 : w.heap.size ≤ w7.heap.size := by omega
                clear ho hk9 hz9
                go_wp2_with fail
                go_quiet (fail)
                go_wp2_with fail
                refine bodyPost_ret (v := .tuple #[.slice none 0 0, .int .i64 p5, .int .i64 5]) (by simp [results, Tryz.results81, go_sem]) rfl ?_
                have hr2 := HR.out
                rw [HE.out] at hr2
                exact ⟨_, by rw [hr2]; rfl, by rw [hr2]; exact ListAt.nil _ _ _ _, by have kk := K9.out; exact Keeps.K⟩
              · rw [ho] at hpost
                obtain ⟨rfl, ⟨k', hp', hl'⟩, hk9⟩ := hpost
                obtain ⟨hd1, hd2⟩ := oneD_pos HNE.out ho
                rw [List.length_drop] at hd2
                have HE : Hid (lexL s.data.toList 0 = match lexL (s.data.toList.drop (p5 + d)) (p5 + d) with
                    | .error q => .error q
                    | .ok us => .ok ((ts ++ [{ t with at_ := p5 }]) ++ us)) := by
                  have h1 := HV7.out.rest
                  rw [lexL_tok HNE.out HC3.out ho, List.drop_drop] at h1
                  show _ = _
                  rw [h1]
                  rcases lexL (s.data.toList.drop (p5 + d)) (p5 + d) with q | us
                  · rfl
                  · simp
                have hkn : k5 < k' := HV7.out.place.rise hp' (by omega)
                have hfw : ts.length + 1 ≤ p5 + d := by have := HV7.out.few; omega
                have hpl := hp'.le.1
                have hLs := HL.out
                have K79 : Hid (Keeps [w1.heap.size] w7 w9) := (K8.out.mono (G := [w1.heap.size]) (fun _ _ h => by cases h)).trans hk9 (fun _ _ h => h)
                have hz9 := (hk9.block _ (Array.getElem?_eq_some_iff.1 HZ8.out).1 (by simp; omega)).trans HZ8.out
                have hsz9 : w7.heap.size < w9.heap.size := (Array.getElem?_eq_some_iff.1 hz9).1
                obtain ⟨⟨z0, z1, z2, z3⟩, fz⟩ := blk4 hz9
                have HOB : Hid (∀ b ∈ ownB (.slice a c q), w1.heap.size + 1 ≤ b ∧ b < w7.heap.size) := fun b hb => OwnAt.ge HV7.out.own b hb
                have HOW : Hid (∀ wx, Keeps [w7.heap.size] w9 wx → OwnAt tokL 93 wx (w1.heap.size + 1) (fun b => w1.heap.size + 1 ≤ b ∧ b ∉ ownB (.slice a c q)) (.slice a c q) ts) := fun wx g => by
                  obtain ⟨css, g1, g2⟩ := HV7.out.ownK K79.out
                  exact ⟨css, ⟨g1.1, fun i cs x h1 h2 => g1.2 i cs x h1 h2⟩, ownsRow_keeps g2 g (fun b hb hb' => by have := (HOB.out b hb).2; simp at hb'; omega)⟩
                have HRW : Hid ((((((w9.setCell ⟨w7.heap.size, 0, none⟩ (.int .i64 t.kind)).setCell ⟨w7.heap.size, 1, none⟩ (.string (str t.s))).setCell ⟨w7.heap.size, 2, none⟩ (.int .i64 t.n)).setCell ⟨w7.heap.size, 3, none⟩ (.int .i64 p5)).alloc (.cells #[.int .i64 t.kind, .string (str t.s), .int .i64 t.n, .int .i64 p5] 93)).heap[w9.heap.size]? = some (.cells #[.int .i64 t.kind, .string (str t.s), .int .i64 t.n, .int .i64 p5] 93 (0, 0))) := by
                  have h1 := heap_alloc_new ((((w9.setCell ⟨w7.heap.size, 0, none⟩ (.int .i64 t.kind)).setCell ⟨w7.heap.size, 1, none⟩ (.string (str t.s))).setCell ⟨w7.heap.size, 2, none⟩ (.int .i64 t.n)).setCell ⟨w7.heap.size, 3, none⟩ (.int .i64 p5)) (.cells #[.int .i64 t.kind, .string (str t.s), .int .i64 t.n, .int .i64 p5] 93)
                  rw [show ((((w9.setCell ⟨w7.heap.size, 0, none⟩ (.int .i64 t.kind)).setCell ⟨w7.heap.size, 1, none⟩ (.string (str t.s))).setCell ⟨w7.heap.size, 2, none⟩ (.int .i64 t.n)).setCell ⟨w7.heap.size, 3, none⟩ (.int .i64 p5)).heap.size = w9.heap.size by simp] at h1
                  exact h1
                have KX : Hid (Keeps [w7.heap.size] w9 (((((w9.setCell ⟨w7.heap.size, 0, none⟩ (.int .i64 t.kind)).setCell ⟨w7.heap.size, 1, none⟩ (.string (str t.s))).setCell ⟨w7.heap.size, 2, none⟩ (.int .i64 t.n)).setCell ⟨w7.heap.size, 3, none⟩ (.int .i64 p5)).alloc (.cells #[.int .i64 t.kind, .string (str t.s), .int .i64 t.n, .int .i64 p5] 93))) := by exact Keeps.K
                have HLL := hid hl'
                have HPP := hid hp'
                have hcc : c + 1 ≤ 401 := by have := HTC.out; omega
                clear ho hz9 hk9 hl' hp' hLs hpl hd1 hd2
                go_wp2_with (at_builtin; go_must (refine wpList_append_off (L := tokL) (PB := fun _ => False) _ (by rfl) _ _ _ (by rfl) (w1.heap.size + 1) 93 it _ 40 Tryz.underlying89 hi0 hz0 hz1 hz2 rfl (R := fun b => w1.heap.size + 1 ≤ b) (.slice a c q) (by rfl) ts [{ t with at_ := p5 }] c HTC.out [[.int .i64 t.kind, .string (str t.s), .int .i64 t.n, .int .i64 p5]] (HOW.out _ (by exact Keeps.K)) (.slice _ _ _) (by rfl) 1 rfl (ElemsAt.one1 (by show _ = tokC _; rfl)) (Reads.one1 HRW.out rfl) (by omega) (le_maxLen (by omega)) (by exact Nat.le_trans (show w1.heap.size + 1 ≤ w9.heap.size by omega) KX.out.size) (fun b _ hb => hb.elim) ?_; intro a6 q6 w6 ho6 hk6 hv6))
                have HL6 : Hid (LAt w6 w1.heap.size s (some ⟨b, off, none⟩) pq k') := (HLL.out.far KX.out (fun b hb => by simp at hb; omega)).far hk6.out (fun b hb => by have := (HOB.out b hb).1; omega)
                have HK6 : Hid (Keeps [] w w6) := ((HV7.out.keepsN K79.out).trans KX.out (fun b hb hb' => by simp at hb'; omega)).trans hk6.out (fun b hb hb' => by have := (HOB.out b hb').1; omega)
                refine ⟨⟨ts ++ [{ t with at_ := p5 }], c + 1, k', p5 + d, a6, q6, by rw [List.length_append, HTC.out]; rfl, rfl, HL6.out.lt, HPP.out, HL6.out, HE.out, by rw [List.length_append]; exact hfw, ho6.out, HK6.out, HV7.out.new_⟩, ?_⟩
                rw [HL6.out.ix, HW.out.lex.ix]
                have := HPP.out.1
                omega

end Go.Proofs.YtnjdepojmnniaaaGreatDoor
