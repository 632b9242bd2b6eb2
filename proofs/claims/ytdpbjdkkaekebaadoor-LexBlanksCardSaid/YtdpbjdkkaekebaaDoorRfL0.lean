/- ParseInt; which values are shown how. -/
import Derived.Test.YtdpbjdkkaekebaaDoorRfK
namespace Go.Proofs.YtdpbjdkkaekebaaDoor
open Go Go.RowKit

theorem var_k {w w' : World} {nm : String} {cs : Array Value} (h : w.var? Tryd.prog nm = some cs) (k : Keeps [] w w') : w'.var? Tryd.prog nm = some cs := by
  unfold World.var? at h ⊢
  cases hg : Tryd.prog.globalNamed nm with
  | none => simp [hg] at h
  | some g =>
    simp only [hg, Option.bind_some] at h ⊢
    have hlt : g < w.heap.size := by
      rcases Nat.lt_or_ge g w.heap.size with h' | h'
      · exact h'
      · simp [Array.getElem?_eq_none h'] at h
    rw [k.block g hlt (by simp)]
    exact h
theorem Errs.k {w w' : World} (h : Errs w) (k : Keeps [] w w') : Errs w' := by
  obtain ⟨⟨t, p, h1⟩, ⟨t2, p2, h2⟩⟩ := h
  exact ⟨⟨t, p, var_k h1 k⟩, ⟨t2, p2, var_k h2 k⟩⟩
theorem cParse_any (s : ByteArray) (w : World) (hE : Errs w) (hs : s.size ≤ 1000000) : Calls Tryd.prog 34 #[.string s, .int .i64 10, .int .i64 64] w fun e w' =>
    Keeps [] w w' ∧ ((∃ n, Lib.parseIntB 64 s.data.toList = .ok n ∧ e = .returned (.tuple #[.int .i64 n, .nilIface])) ∨ ((∀ n, Lib.parseIntB 64 s.data.toList ≠ .ok n) ∧ ∃ z t p, e = .returned (.tuple #[.int .i64 z, .iface t p]))) := by
  obtain ⟨⟨t1, p1, h1⟩, ⟨t2, p2, h2⟩⟩ := hE
  cases h : Lib.parseIntB 64 s.data.toList
  · refine (Tryd.strconv_ParseInt_10_at64_ok s (by omega) _ h w).mono fun e w' hh => ⟨?_, .inl ⟨_, rfl, hh.1⟩⟩
    rcases hh.2 with rfl | ⟨t, rfl⟩
    · exact Keeps.refl [] _
    · exact keeps_bytes w _ t
  · refine (Any.strconv_ParseInt_10_at64_syntax_var Tryd.laysC174 s (by omega) h t1 p1 w h1).mono fun e w' hh => ?_
    obtain ⟨N, he, _, _, hb⟩ := hh
    exact ⟨Keeps.ofBelowSize hb, .inr ⟨fun n hn => by (cases hn), _, _, _, he⟩⟩
  · refine (Tryd.strconv_ParseInt_10_at64_range_var s (by omega) h t2 p2 w h2).mono fun e w' hh => ?_
    obtain ⟨N, he, _, _, hb⟩ := hh
    exact ⟨Keeps.ofBelowSize hb, .inr ⟨fun n hn => by (cases hn), _, _, _, he⟩⟩

theorem shows_cases {u : ValD} {l : List UInt8} (hc : checkD u = true) (h : showL u = l) :
    l = [45] ∨ (u = ⟨1, u.n, ⟨#[]⟩⟩ ∧ l = Lib.itoa u.n) ∨ (l = [116, 114, 117, 101] ∨ l = [102, 97, 108, 115, 101]) ∨ (u = ⟨3, 0, u.s⟩ ∧ l = quoteL u.s.data.toList ∧ Lib.validD u.s.data.toList = true) ∨ (u = ⟨4, u.n, ⟨#[]⟩⟩ ∧ l = 35 :: Lib.itoa u.n) := by
  obtain ⟨k, n, s⟩ := u
  rcases checkD_cases hc with A | A | A | A | A
  · dsimp only at A
    obtain ⟨rfl, rfl, rfl⟩ := A
    exact .inl (by rw [← h]; rfl)
  · dsimp only at A
    obtain ⟨rfl, rfl⟩ := A
    exact .inr (.inl ⟨rfl, by rw [← h, showL_int]⟩)
  · dsimp only at A
    obtain ⟨rfl, hn, rfl⟩ := A
    refine .inr (.inr (.inl ?_))
    rcases hn with rfl | rfl
    · exact .inr (by rw [← h]; rfl)
    · exact .inl (by rw [← h]; rfl)
  · dsimp only at A
    obtain ⟨rfl, rfl, hv⟩ := A
    exact .inr (.inr (.inr (.inl ⟨rfl, by rw [← h, showL_text], hv⟩)))
  · dsimp only at A
    obtain ⟨rfl, rfl⟩ := A
    exact .inr (.inr (.inr (.inr ⟨rfl, by rw [← h, showL_bad]⟩)))
theorem itoa_head {n : Int} {b : UInt8} (h : (Lib.itoa n).head? = some b) : b.toNat ≠ 34 ∧ b.toNat ≠ 35 ∧ b.toNat ≠ 116 ∧ b.toNat ≠ 102 := by
  rcases e : Lib.itoa n with _ | ⟨c, t⟩
  · rw [e] at h; cases h
  · have := itoa_first e
    rw [e] at h
    have hb : c = b := by simpa using h
    subst hb
    omega

end Go.Proofs.YtdpbjdkkaekebaaDoor
