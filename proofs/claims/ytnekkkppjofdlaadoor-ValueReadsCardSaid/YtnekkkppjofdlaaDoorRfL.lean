/- The program's reading of a value. -/
import Derived.Test.YtnekkkppjofdlaaDoorRfK
namespace Go.Proofs.YtnekkkppjofdlaaDoor
open Go Go.RowKit

theorem var_k {w w' : World} {nm : String} {cs : Array Value} (h : w.var? Tryd.prog nm = some cs) (k : Keeps [] w w') : w'.var? Tryd.prog nm = some cs := by
  unfold World.var? at h ⊢
  cases hg : Tryd.prog.globalNamed nm with
  | none => simp [hg] at h
  | some g =>
    simp only [hg, Option.bind_some] at h ⊢
    have hlt : g < w.heap.size := by
      rcases Nat.lt_or_ge g w.heap.size with h' | h'
      · exact h'
      · simp [Array.getElem?_eq_none h'] at h
    rw [k.block g hlt (by simp)]
    exact h
theorem Errs.k {w w' : World} (h : Errs w) (k : Keeps [] w w') : Errs w' := by
  obtain ⟨⟨t, p, h1⟩, ⟨t2, p2, h2⟩⟩ := h
  exact ⟨⟨t, p, var_k h1 k⟩, ⟨t2, p2, var_k h2 k⟩⟩
theorem cParse_any (s : ByteArray) (w : World) (hE : Errs w) (hs : s.size ≤ 1000000) : Calls Tryd.prog 65 #[.string s, .int .i64 10, .int .i64 64] w fun e w' =>
    Keeps [] w w' ∧ ((∃ n, Lib.parseIntB 64 s.data.toList = .ok n ∧ e = .returned (.tuple #[.int .i64 n, .nilIface])) ∨ ((∀ n, Lib.parseIntB 64 s.data.toList ≠ .ok n) ∧ ∃ z t p, e = .returned (.tuple #[.int .i64 z, .iface t p]))) := by
  obtain ⟨⟨t1, p1, h1⟩, ⟨t2, p2, h2⟩⟩ := hE
  cases h : Lib.parseIntB 64 s.data.toList
  · refine (Tryd.strconv_ParseInt_10_at64_ok s (by omega) _ h w).mono fun e w' hh => ⟨?_, .inl ⟨_, rfl, hh.1⟩⟩
    rcases hh.2 with rfl | ⟨t, rfl⟩
    · exact Keeps.refl [] _
    · exact keeps_bytes w _ t
  · refine (Any.strconv_ParseInt_10_at64_syntax_var Tryd.laysC174 s (by omega) h t1 p1 w h1).mono fun e w' hh => ?_
    obtain ⟨N, he, _, _, hb⟩ := hh
    exact ⟨Keeps.ofBelowSize hb, .inr ⟨fun n hn => by (cases hn), _, _, _, he⟩⟩
  · refine (Tryd.strconv_ParseInt_10_at64_range_var s (by omega) h t2 p2 w h2).mono fun e w' hh => ?_
    obtain ⟨N, he, _, _, hb⟩ := hh
    exact ⟨Keeps.ofBelowSize hb, .inr ⟨fun n hn => by (cases hn), _, _, _, he⟩⟩

def ReadPost (s : ByteArray) (w : World) (e : Ending) (w' : World) : Prop := ∃ v ok, e = .returned (.tuple #[valV v, .bool ok]) ∧ ReadsAs s.data.toList v ok ∧ Keeps [] w w'
theorem shows_cases {u : ValD} {l : List UInt8} (hc : checkD u = true) (h : showL u = l) :
    l = [45] ∨ (u = ⟨1, u.n, ⟨#[]⟩⟩ ∧ l = Lib.itoa u.n) ∨ (l = [116, 114, 117, 101] ∨ l = [102, 97, 108, 115, 101]) ∨ (u = ⟨3, 0, u.s⟩ ∧ l = quoteL u.s.data.toList ∧ Lib.validD u.s.data.toList = true) ∨ (u = ⟨4, u.n, ⟨#[]⟩⟩ ∧ l = 35 :: Lib.itoa u.n) := by
  obtain ⟨k, n, s⟩ := u
  rcases checkD_cases hc with A | A | A | A | A
  · dsimp only at A
    obtain ⟨rfl, rfl, rfl⟩ := A
    exact .inl (by rw [← h]; rfl)
  · dsimp only at A
    obtain ⟨rfl, rfl⟩ := A
    exact .inr (.inl ⟨rfl, by rw [← h, showL_int]⟩)
  · dsimp only at A
    obtain ⟨rfl, hn, rfl⟩ := A
    refine .inr (.inr (.inl ?_))
    rcases hn with rfl | rfl
    · exact .inr (by rw [← h]; rfl)
    · exact .inl (by rw [← h]; rfl)
  · dsimp only at A
    obtain ⟨rfl, rfl, hv⟩ := A
    exact .inr (.inr (.inr (.inl ⟨rfl, by rw [← h, showL_text], hv⟩)))
  · dsimp only at A
    obtain ⟨rfl, rfl⟩ := A
    exact .inr (.inr (.inr (.inr ⟨rfl, by rw [← h, showL_bad]⟩)))
theorem itoa_head {n : Int} {b : UInt8} (h : (Lib.itoa n).head? = some b) : b.toNat ≠ 34 ∧ b.toNat ≠ 35 ∧ b.toNat ≠ 116 ∧ b.toNat ≠ 102 := by
  rcases e : Lib.itoa n with _ | ⟨c, t⟩
  · rw [e] at h; cases h
  · have := itoa_first e
    rw [e] at h
    have hb : c = b := by simpa using h
    subst hb
    omega
theorem emptyB_nil : emptyB ⟨#[]⟩ = true := by
  show (str []).toList.isEmpty = true
  rw [str_toList]
  rfl
set_option maxRecDepth 100000 in
set_option maxHeartbeats 1600000 in
theorem vRead_word (s : ByteArray) (v : ValD) (hv : (s = ⟨#[45]⟩ ∧ v = ⟨0, 0, ⟨#[]⟩⟩) ∨ (s = ⟨#[116, 114, 117, 101]⟩ ∧ v = ⟨2, 1, ⟨#[]⟩⟩) ∨ (s = ⟨#[102, 97, 108, 115, 101]⟩ ∧ v = ⟨2, 0, ⟨#[]⟩⟩)) (w : World) (hT : Tabs w) : Calls Tryd.prog 40 #[.string s] w fun e w' => e = .returned (.tuple #[valV v, .bool true]) ∧ Keeps [] w w' := by
  have HT := hid hT
  have f0 : True := trivial
  have f1 : True := trivial
  clear hT
  rcases hv with ⟨rfl, rfl⟩ | ⟨rfl, rfl⟩ | ⟨rfl, rfl⟩
  · go_enter Tryd.func40, Tryd.ntmps40
    go_wp2_with fail
    refine bodyPost_ret (v := .tuple #[.agg #[.int .i64 0, .int .i64 0, .string ⟨#[]⟩], .bool true]) (by simp [results, Tryd.results40, go_sem]) rfl ?_
    exact ⟨rfl, by exact Keeps.K⟩
  · go_enter Tryd.func40, Tryd.ntmps40
    go_wp2_with fail
    refine (vCheck_any ⟨2, 1, ⟨#[]⟩⟩ _ (HT.out.k (by exact Keeps.K)) (by decide)).mono ?_
    rw [show checkD ⟨2, 1, ⟨#[]⟩⟩ = true by simp [checkD, emptyB_nil]]
    rintro e w1 ⟨rfl, hk⟩
    have r0 : w1.cell? ⟨w.heap.size, 0, none⟩ = some (.int .i64 0) := hk.cellSome (by go_simp) (by simp)
    have r1 : w1.cell? ⟨w.heap.size, 1, none⟩ = some (.int .i64 0) := hk.cellSome (by go_simp) (by simp)
    have r2 : w1.cell? ⟨w.heap.size, 2, none⟩ = some (.string ⟨#[]⟩) := hk.cellSome (by go_simp) (by simp)
    have v0 : w1.cell? ⟨w.heap.size + 1, 0, none⟩ = some (.int .i64 2) := hk.cellSome (by go_simp) (by simp)
    have v1 : w1.cell? ⟨w.heap.size + 1, 1, none⟩ = some (.int .i64 1) := hk.cellSome (by go_simp) (by simp)
    have v2 : w1.cell? ⟨w.heap.size + 1, 2, none⟩ = some (.string ⟨#[]⟩) := hk.cellSome (by go_simp) (by simp)
    have f0 : ∀ i, w1.frozen? ⟨w.heap.size, i, none⟩ = false := fun i => (hk.frozen (a := ⟨w.heap.size, i, none⟩) (by first | (simp; done) | (simp; omega)) (by simp)).trans (by first | exact f0 i | simp [f0 i] | simp)
    have f1 : ∀ i, w1.frozen? ⟨w.heap.size + 1, i, none⟩ = false := fun i => (hk.frozen (a := ⟨w.heap.size + 1, i, none⟩) (by first | (simp; done) | (simp; omega)) (by simp)).trans (by first | exact f1 i | simp [f1 i] | simp)
    have K1 : Hid (Keeps [] w w1) := Keeps.trans (by exact Keeps.K) hk (fun _ _ h => h)
    clear hk
    go_wp2_with fail
    refine bodyPost_ret (v := .tuple #[.agg #[.int .i64 2, .int .i64 1, .string ⟨#[]⟩], .bool true]) (by simp [results, Tryd.results40, go_sem, r0, r1, r2]) rfl ?_
    exact ⟨rfl, K1.out.trans (G := [w.heap.size]) (by exact Keeps.K) (fun k hk hm => by simp at hm; omega)⟩
  · go_enter Tryd.func40, Tryd.ntmps40
    go_wp2_with fail
    refine (vCheck_any ⟨2, 0, ⟨#[]⟩⟩ _ (HT.out.k (by exact Keeps.K)) (by decide)).mono ?_
    rw [show checkD ⟨2, 0, ⟨#[]⟩⟩ = true by simp [checkD, emptyB_nil]]
    rintro e w1 ⟨rfl, hk⟩
    have r0 : w1.cell? ⟨w.heap.size, 0, none⟩ = some (.int .i64 0) := hk.cellSome (by go_simp) (by simp)
    have r1 : w1.cell? ⟨w.heap.size, 1, none⟩ = some (.int .i64 0) := hk.cellSome (by go_simp) (by simp)
    have r2 : w1.cell? ⟨w.heap.size, 2, none⟩ = some (.string ⟨#[]⟩) := hk.cellSome (by go_simp) (by simp)
    have v0 : w1.cell? ⟨w.heap.size + 1, 0, none⟩ = some (.int .i64 2) := hk.cellSome (by go_simp) (by simp)
    have v1 : w1.cell? ⟨w.heap.size + 1, 1, none⟩ = some (.int .i64 0) := hk.cellSome (by go_simp) (by simp)
    have v2 : w1.cell? ⟨w.heap.size + 1, 2, none⟩ = some (.string ⟨#[]⟩) := hk.cellSome (by go_simp) (by simp)
    have f0 : ∀ i, w1.frozen? ⟨w.heap.size, i, none⟩ = false := fun i => (hk.frozen (a := ⟨w.heap.size, i, none⟩) (by first | (simp; done) | (simp; omega)) (by simp)).trans (by first | exact f0 i | simp [f0 i] | simp)
    have f1 : ∀ i, w1.frozen? ⟨w.heap.size + 1, i, none⟩ = false := fun i => (hk.frozen (a := ⟨w.heap.size + 1, i, none⟩) (by first | (simp; done) | (simp; omega)) (by simp)).trans (by first | exact f1 i | simp [f1 i] | simp)
    have K1 : Hid (Keeps [] w w1) := Keeps.trans (by exact Keeps.K) hk (fun _ _ h => h)
    clear hk
    go_wp2_with fail
    refine bodyPost_ret (v := .tuple #[.agg #[.int .i64 2, .int .i64 0, .string ⟨#[]⟩], .bool true]) (by simp [results, Tryd.results40, go_sem, r0, r1, r2]) rfl ?_
    exact ⟨rfl, K1.out.trans (G := [w.heap.size]) (by exact Keeps.K) (fun k hk hm => by simp at hm; omega)⟩

theorem prefix_head {l : List UInt8} {c : UInt8} : Lib.hasPrefix l [c] = true ↔ l.head? = some c := by
  unfold Lib.hasPrefix
  rcases l with _ | ⟨b, t⟩
  · simp
  · simp [List.isPrefixOf]
    exact ⟨fun h => h.symm, fun h => h.symm⟩
theorem unqGo_bound : ∀ (f : Nat) (l acc : List UInt8) (p : Nat) (t : List UInt8) (q : Nat), unqGo f l acc p = some (t, q) → t.length ≤ acc.length + 4 * l.length
  | 0, _, _, _, _, _, h => by cases h
  | f + 1, l, acc, p, t, q, h => by
    rw [unqGo_succ] at h
    by_cases hne : l = []
    · rw [if_pos hne] at h; cases h
    · have hw := Lib.decodeL_width l
      have hle := Lib.decodeL_le l hne
      rw [if_neg hne] at h
      split at h
      · injection h with h; injection h with h; rw [← h]; omega
      · split at h
        · split at h
          · cases h
          · have := unqGo_bound f _ _ _ t q h
            have he := escL_le l
            have hen := enc_len4 (escL l).1
            rw [List.length_append, List.length_drop] at this
            omega
        · split at h
          · cases h
          · have := unqGo_bound f _ _ _ t q h
            have hen := enc_len4 (Lib.decodeL l).1
            rw [List.length_append, List.length_drop] at this
            omega
theorem unq_bound {l t : List UInt8} {q : Nat} (h : unqL l = some (t, q)) : t.length ≤ 4 * l.length := by
  rcases l with _ | ⟨b, r⟩
  · cases h
  · replace h : (if b.toNat = 34 then unqGo (r.length + 1) r [] 1 else none) = some (t, q) := h
    split at h
    · have := unqGo_bound _ _ _ _ _ _ h
      simp at this ⊢
      omega
    · cases h
set_option maxRecDepth 100000 in
set_option maxHeartbeats 6400000 in
theorem vRead_rest (s : ByteArray) (w : World) (hT : Tabs w) (hE : Errs w) (hs : s.size ≤ 100000) (t1 : (s.toList == [45]) = false) (t2 : (s.toList == [116, 114, 117, 101]) = false) (t3 : (s.toList == [102, 97, 108, 115, 101]) = false) : Calls Tryd.prog 40 #[.string s] w (ReadPost s w) := by
  have HT := hid hT
  have HE := hid hE
  have f0 : True := trivial
  have f1 : True := trivial
  have hl : s.data.toList = s.toList := (ByteArray.toList_eq s).symm
  have HC : Hid (∀ u, checkD u = true → showL u = s.data.toList → (u = ⟨1, u.n, ⟨#[]⟩⟩ ∧ s.data.toList = Lib.itoa u.n) ∨ (u = ⟨3, 0, u.s⟩ ∧ s.data.toList = quoteL u.s.data.toList ∧ Lib.validD u.s.data.toList = true) ∨ (u = ⟨4, u.n, ⟨#[]⟩⟩ ∧ s.data.toList = 35 :: Lib.itoa u.n)) := by
    intro u hc h
    rcases shows_cases hc h with A | A | A | A | A
    · rw [hl] at A; rw [A] at t1; exact absurd t1 (by decide)
    · exact .inl A
    · rw [hl] at A
      rcases A with A | A
      · rw [A] at t2; exact absurd t2 (by decide)
      · rw [A] at t3; exact absurd t3 (by decide)
    · exact .inr (.inl A)
    · exact .inr (.inr A)
  have HSZ : Hid (s.size ≤ 100000) := hs
  clear hT hE hl
  rcases hq : Lib.hasPrefix s.data.toList [34] with _ | _
  · have HQ : Hid (s.data.toList.head? ≠ some 34) := fun h => by rw [prefix_head.2 h] at hq; cases hq
    go_enter Tryd.func40, Tryd.ntmps40
    go_wp2_with fail
    refine (Tryd.strings_HasPrefix _ _ _).mono ?_
    rintro e w1 ⟨rfl, rfl⟩
    rw [show (⟨#[34]⟩ : ByteArray).data.toList = [34] from rfl, hq]
    clear hq
    go_wp2_with fail
    refine (Tryd.strings_HasPrefix _ _ _).mono ?_
    rintro e w1 ⟨rfl, rfl⟩
    rw [show (⟨#[35]⟩ : ByteArray).data.toList = [35] from rfl]
    rcases hq : Lib.hasPrefix s.data.toList [35] with _ | _
    · have HQ2 : Hid (s.data.toList.head? ≠ some 35) := fun h => by rw [prefix_head.2 h] at hq; cases hq
      have HB : Hid (∀ u, checkD u = true → showL u = s.data.toList → u = ⟨1, u.n, ⟨#[]⟩⟩ ∧ s.data.toList = Lib.itoa u.n) := by
        intro u hc h
        rcases HC.out u hc h with A | A | A
        · exact A
        · exact absurd (by rw [A.2.1]; rfl) HQ.out
        · exact absurd (by rw [A.2]; rfl) HQ2.out
      have HOWN : Hid (∀ u, checkD u = true → showL u = s.data.toList → s.data.toList = Lib.itoa u.n) := fun u hc h => (HB.out u hc h).2
      have HKIND : Hid (∀ u, checkD u = true → showL u = s.data.toList → u = ⟨1, u.n, ⟨#[]⟩⟩) := fun u hc h => (HB.out u hc h).1
      have HSHOW : Hid (∀ n, s.data.toList = Lib.itoa n → showL ⟨1, n, ⟨#[]⟩⟩ = s.data.toList) := fun n h => by rw [showL_int, h]
      have hs2 : s.size ≤ 100000 := hs
      clear hq t1 t2 t3
      go_wp2_with fail
      refine (cParse_any s _ (HE.out.k (by exact Keeps.K)) (by omega)).mono ?_
      rintro e w1 ⟨hk, hp⟩
      have r0 : w1.cell? ⟨w.heap.size, 0, none⟩ = some (.int .i64 0) := hk.cellSome (by go_simp) (by simp)
      have r1 : w1.cell? ⟨w.heap.size, 1, none⟩ = some (.int .i64 0) := hk.cellSome (by go_simp) (by simp)
      have r2 : w1.cell? ⟨w.heap.size, 2, none⟩ = some (.string ⟨#[]⟩) := hk.cellSome (by go_simp) (by simp)
      have v0 : w1.cell? ⟨w.heap.size + 1, 0, none⟩ = some (.int .i64 1) := hk.cellSome (by go_simp) (by simp)
      have v1 : w1.cell? ⟨w.heap.size + 1, 1, none⟩ = some (.int .i64 0) := hk.cellSome (by go_simp) (by simp)
      have v2 : w1.cell? ⟨w.heap.size + 1, 2, none⟩ = some (.string ⟨#[]⟩) := hk.cellSome (by go_simp) (by simp)
      have f0 : ∀ i, w1.frozen? ⟨w.heap.size, i, none⟩ = false := fun i => (hk.frozen (a := ⟨w.heap.size, i, none⟩) (by first | (simp; done) | (simp; omega)) (by simp)).trans (by first | exact f0 i | simp [f0 i] | simp)
      have f1 : ∀ i, w1.frozen? ⟨w.heap.size + 1, i, none⟩ = false := fun i => (hk.frozen (a := ⟨w.heap.size + 1, i, none⟩) (by first | (simp; done) | (simp; omega)) (by simp)).trans (by first | exact f1 i | simp [f1 i] | simp)
      have HK : Hid (Keeps [] w w1) := Keeps.trans (by exact Keeps.K) hk (fun _ _ h => h)
      have S1 : w.heap.size + 1 < w1.heap.size := by have := hk.size; simp at this; omega
      clear hk
      rcases hp with ⟨n, hn, rfl⟩ | ⟨hn, z, t, pp, rfl⟩
      · have HN64 := hid (parse_64 hn)
        go_wp2_with fail
        refine (cFormat_any n HN64.out.1 HN64.out.2 _ (HT.out.k (by have kk := HK.out; exact Keeps.K))).mono ?_
        rintro e w2 ⟨rfl, hk⟩
        have r0 : w2.cell? ⟨w.heap.size, 0, none⟩ = some (.int .i64 0) := hk.cellSome (by go_simp) (by simp)
        have r1 : w2.cell? ⟨w.heap.size, 1, none⟩ = some (.int .i64 0) := hk.cellSome (by go_simp) (by simp)
        have r2 : w2.cell? ⟨w.heap.size, 2, none⟩ = some (.string ⟨#[]⟩) := hk.cellSome (by go_simp) (by simp)
        have v0 : w2.cell? ⟨w.heap.size + 1, 0, none⟩ = some (.int .i64 1) := hk.cellSome (by go_simp) (by simp)
        have v1 : w2.cell? ⟨w.heap.size + 1, 1, none⟩ = some (.int .i64 0) := hk.cellSome (by go_simp) (by simp)
        have v2 : w2.cell? ⟨w.heap.size + 1, 2, none⟩ = some (.string ⟨#[]⟩) := hk.cellSome (by go_simp) (by simp)
        have f0 : ∀ i, w2.frozen? ⟨w.heap.size, i, none⟩ = false := fun i => (hk.frozen (a := ⟨w.heap.size, i, none⟩) (by first | (simp; done) | (simp; omega)) (by simp)).trans (by first | exact f0 i | simp [f0 i] | simp)
        have f1 : ∀ i, w2.frozen? ⟨w.heap.size + 1, i, none⟩ = false := fun i => (hk.frozen (a := ⟨w.heap.size + 1, i, none⟩) (by first | (simp; done) | (simp; omega)) (by simp)).trans (by first | exact f1 i | simp [f1 i] | simp)
        have HK2 : Hid (Keeps [] w w2) := HK.out.trans (Keeps.trans (by exact Keeps.K) hk (fun _ _ h => h)) (fun _ _ h => h)
        have S2 : w.heap.size + 1 < w2.heap.size := by have := hk.size; omega
        clear hk HK S1
        have HK := HK2
        clear HK2
        obtain ⟨fs, hfs⟩ : ∃ fs, (⟨(Lib.itoa n).toArray⟩ : ByteArray) = fs := ⟨_, rfl⟩
        have HF : Hid (fs.toList = Lib.itoa n) := by
          show _ = _
          rw [← hfs]
          exact ByteArray.toList_mk _
        rw [hfs]
        clear hfs
        rcases hcmp : (fs.toList == s.toList) with _ | _
        · have HNO : Hid (∀ u : ValD, checkD u = true → I64 u.n → showL u ≠ s.data.toList) := by
            intro u hc hi h
            have hl := HOWN.out u hc h
            have hpn := parse_itoa u.n hi
            rw [← hl, hn] at hpn
            injection hpn with hpn
            rw [hpn, ← hl, ← ByteArray.toList_eq] at HF
            rw [HF.out] at hcmp
            simp at hcmp
          have hcmp2 : (fs.toList != s.toList) = true := by rw [bne, hcmp]; rfl
          clear hn
          go_wp2_with fail
          refine bodyPost_ret (v := .tuple #[.agg #[.int .i64 0, .int .i64 0, .string ⟨#[]⟩], .bool false]) (by simp [results, Tryd.results40, go_sem, r0, r1, r2]) rfl ?_
          exact ⟨_, _, rfl, readsAs_no (HNO.out), (HK.out.trans (G := [w.heap.size, w.heap.size + 1]) (by exact Keeps.K) (fun k hk hm => by simp at hm; omega))⟩
        · have HSH : Hid (s.data.toList = Lib.itoa n) := by
            have h := beq_iff_eq.1 hcmp
            show _ = _
            rw [← HF.out, h, ByteArray.toList_eq]
          have hcmp2 : (fs.toList != s.toList) = false := by rw [bne, hcmp]; rfl
          clear hn
          go_wp2_with fail
          refine (vCheck_any ⟨1, n, ⟨#[]⟩⟩ _ (HT.out.k (HK.out.trans (G := [w.heap.size, w.heap.size + 1]) (by exact Keeps.K) (fun k hk hm => by simp at hm; omega))) (by show (0 : Nat) ≤ _; omega)).mono ?_
          rintro e w3 ⟨rfl, hk⟩
          have r0 : w3.cell? ⟨w.heap.size, 0, none⟩ = some (.int .i64 0) := hk.cellSome (by go_simp) (by simp)
          have r1 : w3.cell? ⟨w.heap.size, 1, none⟩ = some (.int .i64 0) := hk.cellSome (by go_simp) (by simp)
          have r2 : w3.cell? ⟨w.heap.size, 2, none⟩ = some (.string ⟨#[]⟩) := hk.cellSome (by go_simp) (by simp)
          have v0 : w3.cell? ⟨w.heap.size + 1, 0, none⟩ = some (.int .i64 1) := hk.cellSome (by go_simp) (by simp)
          have v1 : w3.cell? ⟨w.heap.size + 1, 1, none⟩ = some (.int .i64 n) := hk.cellSome (by go_simp) (by simp)
          have v2 : w3.cell? ⟨w.heap.size + 1, 2, none⟩ = some (.string ⟨#[]⟩) := hk.cellSome (by go_simp) (by simp)
          have f0 : ∀ i, w3.frozen? ⟨w.heap.size, i, none⟩ = false := fun i => (hk.frozen (a := ⟨w.heap.size, i, none⟩) (by first | (simp; done) | (simp; omega)) (by simp)).trans (by first | exact f0 i | simp [f0 i] | simp)
          have f1 : ∀ i, w3.frozen? ⟨w.heap.size + 1, i, none⟩ = false := fun i => (hk.frozen (a := ⟨w.heap.size + 1, i, none⟩) (by first | (simp; done) | (simp; omega)) (by simp)).trans (by first | exact f1 i | simp [f1 i] | simp)
          have HK3 : Hid (Keeps [] w w3) := (HK.out.trans (G := [w.heap.size, w.heap.size + 1]) (by exact Keeps.K) (fun k hk hm => by simp at hm; omega)).trans hk (fun _ _ h => h)
          have S3 : w.heap.size + 1 < w3.heap.size := by have := hk.size; simp at this; omega
          clear hk HK S2
          have HK := HK3
          clear HK3
          rcases hch : checkD ⟨1, n, ⟨#[]⟩⟩ with _ | _
          · have HNO : Hid (∀ u : ValD, checkD u = true → I64 u.n → showL u ≠ s.data.toList) := by
              intro u hc hi h
              have hl := HOWN.out u hc h
              rw [HSH.out] at hl
              have hu := HKIND.out u hc h
              rw [hu, ← itoa_inj hl, hch] at hc
              cases hc
            clear hch
            go_wp2_with fail
            refine bodyPost_ret (v := .tuple #[.agg #[.int .i64 0, .int .i64 0, .string ⟨#[]⟩], .bool false]) (by simp [results, Tryd.results40, go_sem, r0, r1, r2]) rfl ?_
            exact ⟨_, _, rfl, readsAs_no (HNO.out), (HK.out.trans (G := [w.heap.size, w.heap.size + 1]) (by exact Keeps.K) (fun k hk hm => by simp at hm; omega))⟩
          · have HCH := hid hch
            clear hch
            go_wp2_with fail
            refine bodyPost_ret (v := .tuple #[.agg #[.int .i64 1, .int .i64 n, .string ⟨#[]⟩], .bool true]) (by simp [results, Tryd.results40, go_sem, r0, r1, r2]) rfl ?_
            exact ⟨⟨1, n, ⟨#[]⟩⟩, true, rfl, readsAs_yes HCH.out (HSHOW.out n HSH.out) HN64.out, (HK.out.trans (G := [w.heap.size, w.heap.size + 1]) (by exact Keeps.K) (fun k hk hm => by simp at hm; omega))⟩
      · have HNO : Hid (∀ u : ValD, checkD u = true → I64 u.n → showL u ≠ s.data.toList) := by
          intro u hc hi h
          have hl := HOWN.out u hc h
          have hpn := parse_itoa u.n hi
          rw [← hl] at hpn
          exact hn _ hpn
        clear hn
        go_wp2_with fail
        refine bodyPost_ret (v := .tuple #[.agg #[.int .i64 0, .int .i64 0, .string ⟨#[]⟩], .bool false]) (by simp [results, Tryd.results40, go_sem, r0, r1, r2]) rfl ?_
        exact ⟨_, _, rfl, readsAs_no (HNO.out), (HK.out.trans (G := [w.heap.size, w.heap.size + 1]) (by exact Keeps.K) (fun k hk hm => by simp at hm; omega))⟩
    · have HQ2 : Hid (s.data.toList.head? = some 35) := prefix_head.1 hq
      have hs0 : 0 < s.size := by
        rcases Nat.eq_zero_or_pos s.size with h | h
        · have h2 := HQ2.out
          have e : s.data.toList = [] := List.eq_nil_of_length_eq_zero (Array.length_toList.trans h)
          rw [e] at h2
          cases h2
        · exact h
      obtain ⟨s1, hs1⟩ : ∃ s1, s.extract 1 s.size = s1 := ⟨_, rfl⟩
      have hsz : s1.size ≤ 100000 := by rw [← hs1, ByteArray.size_extract]; omega
      have HS1 : Hid (s.data.toList = 35 :: s1.data.toList) := by
        have h1 := byte_drop s 0 hs0
        rw [List.drop_zero] at h1
        have h2 := extract_str s 1 (s.size - 1)
        rw [show 1 + (s.size - 1) = s.size by omega, hs1, List.take_of_length_le (by rw [List.length_drop, Array.length_toList]; exact Nat.le_refl _)] at h2
        have h3 := HQ2.out
        show _ = _
        rw [h1] at h3 ⊢
        have h4 : s[0] = 35 := by simpa using h3
        rw [h4, h2]
        rfl
      have HB : Hid (∀ u, checkD u = true → showL u = s.data.toList → u = ⟨4, u.n, ⟨#[]⟩⟩ ∧ s1.data.toList = Lib.itoa u.n) := by
        intro u hc h
        rcases HC.out u hc h with A | A | A
        · exact absurd rfl (itoa_head (n := u.n) (b := 35) (by rw [← A.2]; exact HQ2.out)).2.1
        · have h2 := HQ2.out; rw [A.2.1] at h2; cases h2
        · have h2 := A.2
          rw [HS1.out] at h2
          injection h2 with _ h2
          exact ⟨A.1, h2⟩
      have HOWN : Hid (∀ u, checkD u = true → showL u = s.data.toList → s1.data.toList = Lib.itoa u.n) := fun u hc h => (HB.out u hc h).2
      have HKIND : Hid (∀ u, checkD u = true → showL u = s.data.toList → u = ⟨4, u.n, ⟨#[]⟩⟩) := fun u hc h => (HB.out u hc h).1
      have HSHOW : Hid (∀ n, s1.data.toList = Lib.itoa n → showL ⟨4, n, ⟨#[]⟩⟩ = s.data.toList) := fun n h => by rw [showL_bad, HS1.out, h]
      clear hq t1 t2 t3
      have hs0' : (1 : Int) ≤ (s.size : Int) := by omega
      go_wp2_with fail
      clear hs1
      refine (cParse_any s1 _ (HE.out.k (by exact Keeps.K)) (by omega)).mono ?_
      rintro e w1 ⟨hk, hp⟩
      have r0 : w1.cell? ⟨w.heap.size, 0, none⟩ = some (.int .i64 0) := hk.cellSome (by go_simp) (by simp)
      have r1 : w1.cell? ⟨w.heap.size, 1, none⟩ = some (.int .i64 0) := hk.cellSome (by go_simp) (by simp)
      have r2 : w1.cell? ⟨w.heap.size, 2, none⟩ = some (.string ⟨#[]⟩) := hk.cellSome (by go_simp) (by simp)
      have v0 : w1.cell? ⟨w.heap.size + 1, 0, none⟩ = some (.int .i64 4) := hk.cellSome (by go_simp) (by simp)
      have v1 : w1.cell? ⟨w.heap.size + 1, 1, none⟩ = some (.int .i64 0) := hk.cellSome (by go_simp) (by simp)
      have v2 : w1.cell? ⟨w.heap.size + 1, 2, none⟩ = some (.string ⟨#[]⟩) := hk.cellSome (by go_simp) (by simp)
      have f0 : ∀ i, w1.frozen? ⟨w.heap.size, i, none⟩ = false := fun i => (hk.frozen (a := ⟨w.heap.size, i, none⟩) (by first | (simp; done) | (simp; omega)) (by simp)).trans (by first | exact f0 i | simp [f0 i] | simp)
      have f1 : ∀ i, w1.frozen? ⟨w.heap.size + 1, i, none⟩ = false := fun i => (hk.frozen (a := ⟨w.heap.size + 1, i, none⟩) (by first | (simp; done) | (simp; omega)) (by simp)).trans (by first | exact f1 i | simp [f1 i] | simp)
      have HK : Hid (Keeps [] w w1) := Keeps.trans (by exact Keeps.K) hk (fun _ _ h => h)
      have S1 : w.heap.size + 1 < w1.heap.size := by have := hk.size; simp at this; omega
      clear hk
      rcases hp with ⟨n, hn, rfl⟩ | ⟨hn, z, t, pp, rfl⟩
      · have HN64 := hid (parse_64 hn)
        go_wp2_with fail
        refine (cFormat_any n HN64.out.1 HN64.out.2 _ (HT.out.k (by have kk := HK.out; exact Keeps.K))).mono ?_
        rintro e w2 ⟨rfl, hk⟩
        have r0 : w2.cell? ⟨w.heap.size, 0, none⟩ = some (.int .i64 0) := hk.cellSome (by go_simp) (by simp)
        have r1 : w2.cell? ⟨w.heap.size, 1, none⟩ = some (.int .i64 0) := hk.cellSome (by go_simp) (by simp)
        have r2 : w2.cell? ⟨w.heap.size, 2, none⟩ = some (.string ⟨#[]⟩) := hk.cellSome (by go_simp) (by simp)
        have v0 : w2.cell? ⟨w.heap.size + 1, 0, none⟩ = some (.int .i64 4) := hk.cellSome (by go_simp) (by simp)
        have v1 : w2.cell? ⟨w.heap.size + 1, 1, none⟩ = some (.int .i64 0) := hk.cellSome (by go_simp) (by simp)
        have v2 : w2.cell? ⟨w.heap.size + 1, 2, none⟩ = some (.string ⟨#[]⟩) := hk.cellSome (by go_simp) (by simp)
        have f0 : ∀ i, w2.frozen? ⟨w.heap.size, i, none⟩ = false := fun i => (hk.frozen (a := ⟨w.heap.size, i, none⟩) (by first | (simp; done) | (simp; omega)) (by simp)).trans (by first | exact f0 i | simp [f0 i] | simp)
        have f1 : ∀ i, w2.frozen? ⟨w.heap.size + 1, i, none⟩ = false := fun i => (hk.frozen (a := ⟨w.heap.size + 1, i, none⟩) (by first | (simp; done) | (simp; omega)) (by simp)).trans (by first | exact f1 i | simp [f1 i] | simp)
        have HK2 : Hid (Keeps [] w w2) := HK.out.trans (Keeps.trans (by exact Keeps.K) hk (fun _ _ h => h)) (fun _ _ h => h)
        have S2 : w.heap.size + 1 < w2.heap.size := by have := hk.size; omega
        clear hk HK S1
        have HK := HK2
        clear HK2
        obtain ⟨fs, hfs⟩ : ∃ fs, (⟨(Lib.itoa n).toArray⟩ : ByteArray) = fs := ⟨_, rfl⟩
        have HF : Hid (fs.toList = Lib.itoa n) := by
          show _ = _
          rw [← hfs]
          exact ByteArray.toList_mk _
        rw [hfs]
        clear hfs
        rcases hcmp : (fs.toList == s1.toList) with _ | _
        · have HNO : Hid (∀ u : ValD, checkD u = true → I64 u.n → showL u ≠ s.data.toList) := by
            intro u hc hi h
            have hl := HOWN.out u hc h
            have hpn := parse_itoa u.n hi
            rw [← hl, hn] at hpn
            injection hpn with hpn
            rw [hpn, ← hl, ← ByteArray.toList_eq] at HF
            rw [HF.out] at hcmp
            simp at hcmp
          have hcmp2 : (fs.toList != s1.toList) = true := by rw [bne, hcmp]; rfl
          clear hn
          go_wp2_with fail
          refine bodyPost_ret (v := .tuple #[.agg #[.int .i64 0, .int .i64 0, .string ⟨#[]⟩], .bool false]) (by simp [results, Tryd.results40, go_sem, r0, r1, r2]) rfl ?_
          exact ⟨_, _, rfl, readsAs_no (HNO.out), (HK.out.trans (G := [w.heap.size, w.heap.size + 1]) (by exact Keeps.K) (fun k hk hm => by simp at hm; omega))⟩
        · have HSH : Hid (s1.data.toList = Lib.itoa n) := by
            have h := beq_iff_eq.1 hcmp
            show _ = _
            rw [← HF.out, h, ByteArray.toList_eq]
          have hcmp2 : (fs.toList != s1.toList) = false := by rw [bne, hcmp]; rfl
          clear hn
          go_wp2_with fail
          refine (vCheck_any ⟨4, n, ⟨#[]⟩⟩ _ (HT.out.k (HK.out.trans (G := [w.heap.size, w.heap.size + 1]) (by exact Keeps.K) (fun k hk hm => by simp at hm; omega))) (by show (0 : Nat) ≤ _; omega)).mono ?_
          rintro e w3 ⟨rfl, hk⟩
          have r0 : w3.cell? ⟨w.heap.size, 0, none⟩ = some (.int .i64 0) := hk.cellSome (by go_simp) (by simp)
          have r1 : w3.cell? ⟨w.heap.size, 1, none⟩ = some (.int .i64 0) := hk.cellSome (by go_simp) (by simp)
          have r2 : w3.cell? ⟨w.heap.size, 2, none⟩ = some (.string ⟨#[]⟩) := hk.cellSome (by go_simp) (by simp)
          have v0 : w3.cell? ⟨w.heap.size + 1, 0, none⟩ = some (.int .i64 4) := hk.cellSome (by go_simp) (by simp)
          have v1 : w3.cell? ⟨w.heap.size + 1, 1, none⟩ = some (.int .i64 n) := hk.cellSome (by go_simp) (by simp)
          have v2 : w3.cell? ⟨w.heap.size + 1, 2, none⟩ = some (.string ⟨#[]⟩) := hk.cellSome (by go_simp) (by simp)
          have f0 : ∀ i, w3.frozen? ⟨w.heap.size, i, none⟩ = false := fun i => (hk.frozen (a := ⟨w.heap.size, i, none⟩) (by first | (simp; done) | (simp; omega)) (by simp)).trans (by first | exact f0 i | simp [f0 i] | simp)
          have f1 : ∀ i, w3.frozen? ⟨w.heap.size + 1, i, none⟩ = false := fun i => (hk.frozen (a := ⟨w.heap.size + 1, i, none⟩) (by first | (simp; done) | (simp; omega)) (by simp)).trans (by first | exact f1 i | simp [f1 i] | simp)
          have HK3 : Hid (Keeps [] w w3) := (HK.out.trans (G := [w.heap.size, w.heap.size + 1]) (by exact Keeps.K) (fun k hk hm => by simp at hm; omega)).trans hk (fun _ _ h => h)
          have S3 : w.heap.size + 1 < w3.heap.size := by have := hk.size; simp at this; omega
          clear hk HK S2
          have HK := HK3
          clear HK3
          rcases hch : checkD ⟨4, n, ⟨#[]⟩⟩ with _ | _
          · have HNO : Hid (∀ u : ValD, checkD u = true → I64 u.n → showL u ≠ s.data.toList) := by
              intro u hc hi h
              have hl := HOWN.out u hc h
              rw [HSH.out] at hl
              have hu := HKIND.out u hc h
              rw [hu, ← itoa_inj hl, hch] at hc
              cases hc
            clear hch
            go_wp2_with fail
            refine bodyPost_ret (v := .tuple #[.agg #[.int .i64 0, .int .i64 0, .string ⟨#[]⟩], .bool false]) (by simp [results, Tryd.results40, go_sem, r0, r1, r2]) rfl ?_
            exact ⟨_, _, rfl, readsAs_no (HNO.out), (HK.out.trans (G := [w.heap.size, w.heap.size + 1]) (by exact Keeps.K) (fun k hk hm => by simp at hm; omega))⟩
          · have HCH := hid hch
            clear hch
            go_wp2_with fail
            refine bodyPost_ret (v := .tuple #[.agg #[.int .i64 4, .int .i64 n, .string ⟨#[]⟩], .bool true]) (by simp [results, Tryd.results40, go_sem, r0, r1, r2]) rfl ?_
            exact ⟨⟨4, n, ⟨#[]⟩⟩, true, rfl, readsAs_yes HCH.out (HSHOW.out n HSH.out) HN64.out, (HK.out.trans (G := [w.heap.size, w.heap.size + 1]) (by exact Keeps.K) (fun k hk hm => by simp at hm; omega))⟩
      · have HNO : Hid (∀ u : ValD, checkD u = true → I64 u.n → showL u ≠ s.data.toList) := by
          intro u hc hi h
          have hl := HOWN.out u hc h
          have hpn := parse_itoa u.n hi
          rw [← hl] at hpn
          exact hn _ hpn
        clear hn
        go_wp2_with fail
        refine bodyPost_ret (v := .tuple #[.agg #[.int .i64 0, .int .i64 0, .string ⟨#[]⟩], .bool false]) (by simp [results, Tryd.results40, go_sem, r0, r1, r2]) rfl ?_
        exact ⟨_, _, rfl, readsAs_no (HNO.out), (HK.out.trans (G := [w.heap.size, w.heap.size + 1]) (by exact Keeps.K) (fun k hk hm => by simp at hm; omega))⟩
  · have HQ : Hid (s.data.toList.head? = some 34) := prefix_head.1 hq
    have HB : Hid (∀ u, checkD u = true → showL u = s.data.toList → u = ⟨3, 0, u.s⟩ ∧ unqL s.data.toList = some (u.s.data.toList, s.data.toList.length)) := by
      intro u hc h
      rcases HC.out u hc h with A | A | A
      · exact absurd rfl (itoa_head (n := u.n) (b := 34) (by rw [← A.2]; exact HQ.out)).1
      · refine ⟨A.1, ?_⟩
        have := unq_quote u.s.data.toList [] A.2.2
        rw [List.append_nil, ← A.2.1] at this
        exact this
      · have h2 := HQ.out; rw [A.2] at h2; cases h2
    go_enter Tryd.func40, Tryd.ntmps40
    go_wp2_with fail
    refine (Tryd.strings_HasPrefix _ _ _).mono ?_
    rintro e w1 ⟨rfl, rfl⟩
    rw [show (⟨#[34]⟩ : ByteArray).data.toList = [34] from rfl, hq]
    go_wp2_with fail
    refine (unquoted_any s _ (HT.out.k (by exact Keeps.K)) (by omega)).mono ?_
    rintro e w1 ⟨rfl, hk⟩
    have r0 : w1.cell? ⟨w.heap.size, 0, none⟩ = some (.int .i64 0) := hk.cellSome (by go_simp) (by simp)
    have r1 : w1.cell? ⟨w.heap.size, 1, none⟩ = some (.int .i64 0) := hk.cellSome (by go_simp) (by simp)
    have r2 : w1.cell? ⟨w.heap.size, 2, none⟩ = some (.string ⟨#[]⟩) := hk.cellSome (by go_simp) (by simp)
    have v0 : w1.cell? ⟨w.heap.size + 1, 0, none⟩ = some (.int .i64 0) := hk.cellSome (by go_simp) (by simp)
    have v1 : w1.cell? ⟨w.heap.size + 1, 1, none⟩ = some (.int .i64 0) := hk.cellSome (by go_simp) (by simp)
    have v2 : w1.cell? ⟨w.heap.size + 1, 2, none⟩ = some (.string ⟨#[]⟩) := hk.cellSome (by go_simp) (by simp)
    have f0 : ∀ i, w1.frozen? ⟨w.heap.size, i, none⟩ = false := fun i => (hk.frozen (a := ⟨w.heap.size, i, none⟩) (by first | (simp; done) | (simp; omega)) (by simp)).trans (by first | exact f0 i | simp [f0 i] | simp)
    have f1 : ∀ i, w1.frozen? ⟨w.heap.size + 1, i, none⟩ = false := fun i => (hk.frozen (a := ⟨w.heap.size + 1, i, none⟩) (by first | (simp; done) | (simp; omega)) (by simp)).trans (by first | exact f1 i | simp [f1 i] | simp)
    have HK : Hid (Keeps [] w w1) := Keeps.trans (by exact Keeps.K) hk (fun _ _ h => h)
    have S1 : w.heap.size + 1 < w1.heap.size := by have := hk.size; simp at this; omega
    clear hk hq t1 t2 t3
    rcases hun : unqL s.data.toList with _ | ⟨t, tp⟩
    · have HNO : Hid (∀ u : ValD, checkD u = true → I64 u.n → showL u ≠ s.data.toList) := by
        intro u hc hi h
        have h2 := (HB.out u hc h).2
        rw [hun] at h2
        cases h2
      clear hun
      unfold unqV
      dsimp only
      go_wp2_with fail
      refine bodyPost_ret (v := .tuple #[.agg #[.int .i64 0, .int .i64 0, .string ⟨#[]⟩], .bool false]) (by simp [results, Tryd.results40, go_sem, r0, r1, r2]) rfl ?_
      exact ⟨_, _, rfl, readsAs_no (HNO.out), (HK.out.trans (G := [w.heap.size, w.heap.size + 1]) (by exact Keeps.K) (fun k hk hm => by simp at hm; omega))⟩
    · have HTL := hid (unq_bound hun)
      have HUN := hid hun
      clear hun
      unfold unqV
      dsimp only
      go_wp2_with fail
      have htl : t.length ≤ 400000 := by
        have h := HTL.out
        have e : s.data.toList.length = s.size := Array.length_toList
        omega
      have htz : (str t).size = t.length := rfl
      refine (vCheck_any ⟨3, 0, str t⟩ _ (HT.out.k (HK.out.trans (G := [w.heap.size, w.heap.size + 1]) (by exact Keeps.K) (fun k hk hm => by simp at hm; omega))) (by show (str t).size ≤ _; omega)).mono ?_
      rintro e w3 ⟨rfl, hk⟩
      have r0 : w3.cell? ⟨w.heap.size, 0, none⟩ = some (.int .i64 0) := hk.cellSome (by go_simp) (by simp)
      have r1 : w3.cell? ⟨w.heap.size, 1, none⟩ = some (.int .i64 0) := hk.cellSome (by go_simp) (by simp)
      have r2 : w3.cell? ⟨w.heap.size, 2, none⟩ = some (.string ⟨#[]⟩) := hk.cellSome (by go_simp) (by simp)
      have v0 : w3.cell? ⟨w.heap.size + 1, 0, none⟩ = some (.int .i64 3) := hk.cellSome (by go_simp) (by simp)
      have v1 : w3.cell? ⟨w.heap.size + 1, 1, none⟩ = some (.int .i64 0) := hk.cellSome (by go_simp) (by simp)
      have v2 : w3.cell? ⟨w.heap.size + 1, 2, none⟩ = some (.string (str t)) := hk.cellSome (by go_simp) (by simp)
      have f0 : ∀ i, w3.frozen? ⟨w.heap.size, i, none⟩ = false := fun i => (hk.frozen (a := ⟨w.heap.size, i, none⟩) (by first | (simp; done) | (simp; omega)) (by simp)).trans (by first | exact f0 i | simp [f0 i] | simp)
      have f1 : ∀ i, w3.frozen? ⟨w.heap.size + 1, i, none⟩ = false := fun i => (hk.frozen (a := ⟨w.heap.size + 1, i, none⟩) (by first | (simp; done) | (simp; omega)) (by simp)).trans (by first | exact f1 i | simp [f1 i] | simp)
      have HK3 : Hid (Keeps [] w w3) := (HK.out.trans (G := [w.heap.size, w.heap.size + 1]) (by exact Keeps.K) (fun k hk hm => by simp at hm; omega)).trans hk (fun _ _ h => h)
      have S3 : w.heap.size + 1 < w3.heap.size := by have := hk.size; simp at this; omega
      clear hk HK S1
      have HK := HK3
      clear HK3
      have HTT : Hid (∀ u : ValD, checkD u = true → showL u = s.data.toList → u = ⟨3, 0, str t⟩) := by
        intro u hc h
        obtain ⟨h1, h2⟩ := HB.out u hc h
        rw [HUN.out] at h2
        injection h2 with h2
        injection h2 with h2
        rw [h1]
        congr 1
        rw [h2]
        obtain ⟨⟨l⟩⟩ := u.s
        rfl
      rcases hch : checkD ⟨3, 0, str t⟩ with _ | _
      · have HNO : Hid (∀ u : ValD, checkD u = true → I64 u.n → showL u ≠ s.data.toList) := by
          intro u hc hi h
          rw [HTT.out u hc h, hch] at hc
          cases hc
        clear hch
        go_wp2_with fail
        refine bodyPost_ret (v := .tuple #[.agg #[.int .i64 0, .int .i64 0, .string ⟨#[]⟩], .bool false]) (by simp [results, Tryd.results40, go_sem, r0, r1, r2]) rfl ?_
        exact ⟨_, _, rfl, readsAs_no (HNO.out), (HK.out.trans (G := [w.heap.size, w.heap.size + 1]) (by exact Keeps.K) (fun k hk hm => by simp at hm; omega))⟩
      · have HCH := hid hch
        clear hch
        go_wp2_with fail
        refine (vshow_any ⟨3, 0, str t⟩ _ (HT.out.k (HK.out.trans (G := []) (by exact Keeps.K) (fun k hk hm => by cases hm))) (by show (str t).size ≤ _; omega) ⟨by show (-9223372036854775808 : Int) ≤ 0; omega, by show (0 : Int) ≤ _; omega⟩).mono ?_
        obtain ⟨z, hz⟩ : ∃ z, bytes (showL ⟨3, 0, str t⟩) = z := ⟨_, rfl⟩
        have HZ : Hid (z.toList = showL ⟨3, 0, str t⟩) := by
          show _ = _
          rw [← hz]
          exact ByteArray.toList_mk _
        rw [hz]
        clear hz
        rintro e w4 ⟨rfl, hk⟩
        have r0 : w4.cell? ⟨w.heap.size, 0, none⟩ = some (.int .i64 0) := hk.cellSome (by go_simp) (by simp)
        have r1 : w4.cell? ⟨w.heap.size, 1, none⟩ = some (.int .i64 0) := hk.cellSome (by go_simp) (by simp)
        have r2 : w4.cell? ⟨w.heap.size, 2, none⟩ = some (.string ⟨#[]⟩) := hk.cellSome (by go_simp) (by simp)
        have v0 : w4.cell? ⟨w.heap.size + 1, 0, none⟩ = some (.int .i64 3) := hk.cellSome (by go_simp) (by simp)
        have v1 : w4.cell? ⟨w.heap.size + 1, 1, none⟩ = some (.int .i64 0) := hk.cellSome (by go_simp) (by simp)
        have v2 : w4.cell? ⟨w.heap.size + 1, 2, none⟩ = some (.string (str t)) := hk.cellSome (by go_simp) (by simp)
        have f0 : ∀ i, w4.frozen? ⟨w.heap.size, i, none⟩ = false := fun i => (hk.frozen (a := ⟨w.heap.size, i, none⟩) (by first | (simp; done) | (simp; omega)) (by simp)).trans (by first | exact f0 i | simp [f0 i] | simp)
        have f1 : ∀ i, w4.frozen? ⟨w.heap.size + 1, i, none⟩ = false := fun i => (hk.frozen (a := ⟨w.heap.size + 1, i, none⟩) (by first | (simp; done) | (simp; omega)) (by simp)).trans (by first | exact f1 i | simp [f1 i] | simp)
        have HK4 : Hid (Keeps [] w w4) := (HK.out.trans (G := []) (by exact Keeps.K) (fun k hk hm => by cases hm)).trans hk (fun _ _ h => h)
        have S4 : w.heap.size + 1 < w4.heap.size := by have := hk.size; omega
        clear hk HK S3
        have HK := HK4
        clear HK4
        rcases hcmp : (z.toList == s.toList) with _ | _
        · have hcmp2 : (z.toList != s.toList) = true := by rw [bne, hcmp]; rfl
          have HNO : Hid (∀ u : ValD, checkD u = true → I64 u.n → showL u ≠ s.data.toList) := by
            intro u hc hi h
            rw [HTT.out u hc h, ← HZ.out, ← ByteArray.toList_eq] at h
            rw [h] at hcmp
            simp at hcmp
          go_wp2_with fail
          refine bodyPost_ret (v := .tuple #[.agg #[.int .i64 0, .int .i64 0, .string ⟨#[]⟩], .bool false]) (by simp [results, Tryd.results40, go_sem, r0, r1, r2]) rfl ?_
          exact ⟨_, _, rfl, readsAs_no (HNO.out), (HK.out.trans (G := [w.heap.size, w.heap.size + 1]) (by exact Keeps.K) (fun k hk hm => by simp at hm; omega))⟩
        · have hcmp2 : (z.toList != s.toList) = false := by rw [bne, hcmp]; rfl
          have HSH : Hid (showL ⟨3, 0, str t⟩ = s.data.toList) := by
            have h := beq_iff_eq.1 hcmp
            show _ = _
            rw [← HZ.out, h, ByteArray.toList_eq]
          go_wp2_with fail
          refine bodyPost_ret (v := .tuple #[.agg #[.int .i64 3, .int .i64 0, .string (str t)], .bool true]) (by simp [results, Tryd.results40, go_sem, r0, r1, r2]) rfl ?_
          exact ⟨⟨3, 0, str t⟩, true, rfl, readsAs_yes HCH.out HSH.out ⟨by show (-9223372036854775808 : Int) ≤ 0; omega, by show (0 : Int) ≤ _; omega⟩, (HK.out.trans (G := [w.heap.size, w.heap.size + 1]) (by exact Keeps.K) (fun k hk hm => by simp at hm; omega))⟩

end Go.Proofs.YtnekkkppjofdlaaDoor
