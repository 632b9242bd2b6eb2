/- What an expression comes «to», where inputs are blank. -/
import Derived.Test.YtgjiahilbmeaeaaGreatDoorEvF
set_option maxRecDepth 100000
set_option maxHeartbeats 4000000
set_option linter.unusedSimpArgs false
set_option linter.unusedVariables false
namespace Go.Proofs.YtgjiahilbmeaeaaGreatDoor
open Go Go.RowKit
theorem needD_ok {v : ValD} (kinds : List Int) (h : checkD v = true ∧ v.s.size ≤ 1000000) : checkD (needD v kinds).1 = true ∧ (needD v kinds).1.s.size ≤ 1000000 := by
 unfold needD
 split
 ·exact h
 ·split
  ·exact h
  ·exact ⟨by kernel_rfl, by decide⟩
theorem namedQ_ok {s : ByteArray} {names : List ByteArray} {vals : List ValD} {v : ValD} (hv : ∀ v ∈ vals, checkD v = true ∧ v.s.size ≤ 1000000) (h : namedQ s names vals = some v) : checkD v = true ∧ v.s.size ≤ 1000000 := by
 unfold namedQ at h
 split at h
 ·cases h
 ·rename_i i hi
  cases hu : vals[i]? with
  | none => rw [hu] at h; cases h
  | some u =>
    rw [hu] at h
    simp at h
    subst h
    refine ⟨boxD_ok u, ?_⟩
    unfold boxD
    split
    ·exact (hv u (List.mem_of_getElem? hu)).2
    ·decide
mutual
theorem evalQ_ok (names : List ByteArray) (vals : List ValD) (hv : ∀ v ∈ vals, checkD v = true ∧ v.s.size ≤ 1000000) : ∀ (e : ExprD) (v : ValD), evalQ e names vals = some v → checkD v = true ∧ v.s.size ≤ 1000000
 | .mk o n s ks, v, h => by
   rw [evalQ] at h
   split at h
   ·cases h
    refine ⟨?_, (by decide : emptyS.size ≤ 1000000)⟩
    show checkD ⟨1, n, emptyS⟩ = true
    unfold checkD
    rw [if_neg (by show ¬ (1 : Int) = 0; decide), if_pos rfl]
    show emptyB emptyS = true
    kernel_rfl
   ·split at h
    ·exact namedQ_ok hv h
    ·split at h
     ·obtain ⟨u, _, rfl⟩ := Option.map_eq_some_iff.1 h
      unfold truD
      split
      ·exact ⟨by kernel_rfl, by decide⟩
      ·exact ⟨by kernel_rfl, by decide⟩
     ·exact lazyQ_ok names vals hv o ks v h
theorem lazyQ_ok (names : List ByteArray) (vals : List ValD) (hv : ∀ v ∈ vals, checkD v = true ∧ v.s.size ≤ 1000000) : ∀ (o : Int) (ks : List ExprD) (v : ValD), lazyQ o ks names vals = some v → checkD v = true ∧ v.s.size ≤ 1000000
 | o, [], v, h => by rw [lazyQ] at h; cases h
 | o, a :: r, v, h => by
   rw [lazyQ] at h
   cases hx : evalQ a names vals with
   | none =>
     simp only [hx] at h
     repeat' split at h
     all_goals cases h
   | some x =>
     have hk := evalQ_ok names vals hv a x hx
     simp only [hx] at h
     generalize (if o = 14 then ([1, 3] : List Int) else [1, 3, 2]) = kk at h
     split at h
     ·split at h
      ·cases h; exact needD_ok _ hk
      ·exact divQ_ok names vals hv o r v h
     ·split at h
      ·split at h
       ·cases h; exact needD_ok _ hk
       ·split at h
        ·cases h
        ·exact elseQ_ok names vals hv r v h
      ·split at h
       ·split at h
        ·cases h; exact needD_ok _ hk
        ·cases h
       ·split at h
        ·split at h
         ·cases h; exact needD_ok _ hk
         ·cases h
        ·split at h
         ·split at h
          ·cases h; exact needD_ok _ hk
          ·split at h
           ·exact cmpQ_ok names vals hv x.kind r v h
           ·cases h
         ·cases h
theorem divQ_ok (names : List ByteArray) (vals : List ValD) (hv : ∀ v ∈ vals, checkD v = true ∧ v.s.size ≤ 1000000) : ∀ (o : Int) (ks : List ExprD) (v : ValD), divQ o ks names vals = some v → checkD v = true ∧ v.s.size ≤ 1000000
 | o, [], v, h => by rw [divQ] at h; cases h; simp
 | o, _ :: _ :: _, v, h => by rw [divQ] at h; cases h; simp
 | o, [b], v, h => by
   rw [divQ] at h
   cases hx : evalQ b names vals with
   | none => rw [hx] at h; cases h
   | some x =>
     have hk := evalQ_ok names vals hv b x hx
     rw [hx] at h
     dsimp only at h
     split at h
     ·cases h; exact needD_ok _ hk
     ·split at h
      ·cases h; exact ⟨by kernel_rfl, by decide⟩
      ·cases h
theorem cmpQ_ok (names : List ByteArray) (vals : List ValD) (hv : ∀ v ∈ vals, checkD v = true ∧ v.s.size ≤ 1000000) : ∀ (k : Int) (ks : List ExprD) (v : ValD), cmpQ k ks names vals = some v → checkD v = true ∧ v.s.size ≤ 1000000
 | k, [], v, h => by rw [cmpQ] at h; cases h; simp
 | k, _ :: _ :: _, v, h => by rw [cmpQ] at h; cases h; simp
 | k, [b], v, h => by
   rw [cmpQ] at h
   cases hx : evalQ b names vals with
   | none => rw [hx] at h; cases h
   | some x =>
     have hk := evalQ_ok names vals hv b x hx
     rw [hx] at h
     dsimp only at h
     split at h
     ·cases h; exact needD_ok _ hk
     ·cases h
theorem elseQ_ok (names : List ByteArray) (vals : List ValD) (hv : ∀ v ∈ vals, checkD v = true ∧ v.s.size ≤ 1000000) : ∀ (ks : List ExprD) (v : ValD), elseQ ks names vals = some v → checkD v = true ∧ v.s.size ≤ 1000000
 | [], v, h => by rw [elseQ] at h; cases h; simp
 | [_], v, h => by rw [elseQ] at h; cases h; simp
 | [_, c], v, h => by rw [elseQ] at h; exact evalQ_ok names vals hv c v h
 | _ :: _ :: _ :: _, v, h => by rw [elseQ] at h; cases h; simp
end
theorem evR_number (w : World) (wb : Nat) (o n : Int) (s : ByteArray) (a : Option Addr) (m c : Nat) (r : Value) (ho : o = 7 ∨ o = 8 ∨ o = 9 ∨ o = 10 ∨ o = 11)
 (hD : ∀ wx, Keeps [] w wx → Calls Tryz.prog 280 #[.pointer (some ⟨wb, 0, none⟩), .agg #[.int .i64 o, .int .i64 n, .string s, .slice a m c]] wx fun e w' => e = .returned r ∧ Keeps [] wx w') :
 Calls Tryz.prog 256 #[.pointer (some ⟨wb, 0, none⟩), .agg #[.int .i64 o, .int .i64 n, .string s, .slice a m c]] w fun e w' => e = .returned r ∧ Keeps [] w w' := by
 have HD := hid hD
 clear hD
 rcases ho with rfl | rfl | rfl | rfl | rfl
 all_goals
  go_enter Tryz.func256, Tryz.ntmps256
  go_wp2_with fail
  refine (HD.out _ (by exact Keeps.K)).mono ?_
  rintro _ w2 ⟨rfl, hk2⟩
  have K2 : Hid (Keeps [] w w2) := Keeps.trans (F := []) (G := []) (by exact Keeps.K) hk2 (fun _ _ h => h)
  clear hk2
  go_wp2_with fail
  go_ret
  exact ⟨rfl, K2.out⟩
theorem evR_text (w : World) (wb : Nat) (o n : Int) (s : ByteArray) (a : Option Addr) (m c : Nat) (r : Value) (ho : o = 20 ∨ o = 21 ∨ o = 23)
 (hD : ∀ wx, Keeps [] w wx → Calls Tryz.prog 281 #[.pointer (some ⟨wb, 0, none⟩), .agg #[.int .i64 o, .int .i64 n, .string s, .slice a m c]] wx fun e w' => e = .returned r ∧ Keeps [] wx w') :
 Calls Tryz.prog 256 #[.pointer (some ⟨wb, 0, none⟩), .agg #[.int .i64 o, .int .i64 n, .string s, .slice a m c]] w fun e w' => e = .returned r ∧ Keeps [] w w' := by
 have HD := hid hD
 clear hD
 rcases ho with rfl | rfl | rfl
 all_goals
  go_enter Tryz.func256, Tryz.ntmps256
  go_wp2_with fail
  refine (HD.out _ (by exact Keeps.K)).mono ?_
  rintro _ w2 ⟨rfl, hk2⟩
  have K2 : Hid (Keeps [] w w2) := Keeps.trans (F := []) (G := []) (by exact Keeps.K) hk2 (fun _ _ h => h)
  clear hk2
  go_wp2_with fail
  go_ret
  exact ⟨rfl, K2.out⟩
theorem evR_truth (w : World) (wb : Nat) (o n : Int) (s : ByteArray) (a : Option Addr) (m c : Nat) (r : Value) (ho : o = 12 ∨ o = 14 ∨ o = 16 ∨ o = 17 ∨ o = 18)
 (hD : ∀ wx, Keeps [] w wx → Calls Tryz.prog 282 #[.pointer (some ⟨wb, 0, none⟩), .agg #[.int .i64 o, .int .i64 n, .string s, .slice a m c]] wx fun e w' => e = .returned r ∧ Keeps [] wx w') :
 Calls Tryz.prog 256 #[.pointer (some ⟨wb, 0, none⟩), .agg #[.int .i64 o, .int .i64 n, .string s, .slice a m c]] w fun e w' => e = .returned r ∧ Keeps [] w w' := by
 have HD := hid hD
 clear hD
 rcases ho with rfl | rfl | rfl | rfl | rfl
 all_goals
  go_enter Tryz.func256, Tryz.ntmps256
  go_wp2_with fail
  refine (HD.out _ (by exact Keeps.K)).mono ?_
  rintro _ w2 ⟨rfl, hk2⟩
  have K2 : Hid (Keeps [] w w2) := Keeps.trans (F := []) (G := []) (by exact Keeps.K) hk2 (fun _ _ h => h)
  clear hk2
  go_wp2_with fail
  go_ret
  exact ⟨rfl, K2.out⟩
theorem boxV_int (n : Int) : boxV (intD n) = .iface 2 (.int .i64 n) := by
 unfold boxV
 rw [if_pos]
 ·rfl
 ·show checkD ⟨1, n, emptyS⟩ = true
  unfold checkD
  rw [if_neg (by show ¬ (1 : Int) = 0; decide), if_pos rfl]
  show emptyB emptyS = true
  kernel_rfl
theorem boxV_tru (b : Bool) : boxV (truD b) = .iface 4 (.bool b) := by
 cases b <;> kernel_rfl
theorem evR_num (w : World) (wb : Nat) (n : Int) (s : ByteArray) (a : Option Addr) (m c : Nat) : Calls Tryz.prog 256 #[.pointer (some ⟨wb, 0, none⟩), .agg #[.int .i64 1, .int .i64 n, .string s, .slice a m c]] w fun e w' => e = .returned (.iface 2 (.int .i64 n)) ∧ Keeps [] w w' := by
 go_enter Tryz.func256, Tryz.ntmps256
 go_wp2_with fail
 go_ret
 exact ⟨rfl, by exact Keeps.K⟩
theorem evR_name (w : World) (wb : Nat) (n : Int) (s : ByteArray) (a : Option Addr) (m c : Nat) (r : Value) (hD : ∀ wx, Keeps [] w wx → Calls Tryz.prog 279 #[.pointer (some ⟨wb, 0, none⟩), .string s] wx fun e w' => e = .returned r ∧ Keeps [] wx w') :
 Calls Tryz.prog 256 #[.pointer (some ⟨wb, 0, none⟩), .agg #[.int .i64 4, .int .i64 n, .string s, .slice a m c]] w fun e w' => e = .returned r ∧ Keeps [] w w' := by
 have HD := hid hD
 clear hD
 go_enter Tryz.func256, Tryz.ntmps256
 go_wp2_with fail
 refine (HD.out _ (by exact Keeps.K)).mono ?_
 rintro _ w2 ⟨rfl, hk2⟩
 have K2 : Hid (Keeps [] w w2) := Keeps.trans (F := []) (G := []) (by exact Keeps.K) hk2 (fun _ _ h => h)
 clear hk2
 go_wp2_with fail
 go_ret
 exact ⟨rfl, K2.out⟩
theorem evR_has (w : World) (wb g off : Nat) (n : Int) (s : ByteArray) (m c : Nat) (v : ValD) (o0 n0 : Int) (s0 : ByteArray) (a0 : Option Addr) (m0 c0 : Nat) (hm : 1 ≤ m) (hk : KidAt w g off o0 n0 s0 a0 m0 c0) (hc : checkD v = true) (hD : ∀ wx, Keeps [] w wx → Calls Tryz.prog 279 #[.pointer (some ⟨wb, 0, none⟩), .string s0] wx fun e w' => e = .returned (boxV v) ∧ Keeps [] wx w') :
 Calls Tryz.prog 256 #[.pointer (some ⟨wb, 0, none⟩), .agg #[.int .i64 22, .int .i64 n, .string s, .slice (some ⟨g, off, none⟩) m c]] w fun e w' => e = .returned (.iface 4 (.bool (decide (v.kind ≠ 0 ∧ v.kind ≠ 4)))) ∧ Keeps [] w w' := by
 have HD := hid hD
 have KA : Hid (Keeps [] w (w.alloc (.cells #[.int .i64 22, .int .i64 n, .string s, .slice (some ⟨g, off, none⟩) m c] 76))) := by show Keeps _ _ _; exact Keeps.K
 obtain ⟨-, -, x2, -⟩ := hk.k KA.out
 have m0 : (0 : Int) < (m : Int) := by omega
 have HB := hid (box_forms hc)
 clear hD hk hc
 go_enter Tryz.func256, Tryz.ntmps256
 go_wp2_with fail
 refine (HD.out _ KA.out).mono ?_
 rintro _ w2 ⟨rfl, hk2⟩
 have K2 : Hid (Keeps [] w w2) := KA.out.trans hk2 (fun _ _ h => h)
 clear hk2 x2
 rcases HB.out with ⟨h1, h2⟩ | ⟨h1, h2⟩ | ⟨h1, h2⟩ | ⟨h1, h2⟩ | ⟨h1, h3, h2⟩ | ⟨h1, h2⟩
 ·rw [h2]
  have HK := hid h1
  clear h1 h2
  have ta : ∀ w, (Instr.typeAssert (.nilIface) 20 61 true).run Tryz.prog w = .ok (.tuple #[.agg #[.int .i64 0, .int .i64 0, .string ⟨#[]⟩], .bool false]) w := fun _ => by kernel_rfl
  go_wp2_with fail
  go_ret
  exact ⟨by rw [HK.out]; rfl, K2.out⟩
 ·rw [h2]
  have HK := hid h1
  clear h1 h2
  have ta : ∀ w, (Instr.typeAssert (.iface 2 (.int .i64 v.n)) 20 61 true).run Tryz.prog w = .ok (.tuple #[.agg #[.int .i64 0, .int .i64 0, .string ⟨#[]⟩], .bool false]) w := fun _ => by kernel_rfl
  go_wp2_with fail
  go_ret
  exact ⟨by rw [HK.out]; rfl, K2.out⟩
 ·rw [h2]
  have HK := hid h1
  clear h1 h2
  have ta : ∀ w, (Instr.typeAssert (.iface 4 (.bool true)) 20 61 true).run Tryz.prog w = .ok (.tuple #[.agg #[.int .i64 0, .int .i64 0, .string ⟨#[]⟩], .bool false]) w := fun _ => by kernel_rfl
  go_wp2_with fail
  go_ret
  exact ⟨by rw [HK.out]; rfl, K2.out⟩
 ·rw [h2]
  have HK := hid h1
  clear h1 h2
  have ta : ∀ w, (Instr.typeAssert (.iface 4 (.bool false)) 20 61 true).run Tryz.prog w = .ok (.tuple #[.agg #[.int .i64 0, .int .i64 0, .string ⟨#[]⟩], .bool false]) w := fun _ => by kernel_rfl
  go_wp2_with fail
  go_ret
  exact ⟨by rw [HK.out]; rfl, K2.out⟩
 ·rw [h2]
  have HK := hid h1
  clear h1 h2
  have ta : ∀ w, (Instr.typeAssert (.iface 9 (.string v.s)) 20 61 true).run Tryz.prog w = .ok (.tuple #[.agg #[.int .i64 0, .int .i64 0, .string ⟨#[]⟩], .bool false]) w := fun _ => by kernel_rfl
  go_wp2_with fail
  go_ret
  exact ⟨by rw [HK.out]; rfl, K2.out⟩
 ·rw [h2]
  have HK := hid h1
  clear h1 h2
  have ta : ∀ w, (Instr.typeAssert (.iface 61 (.agg #[.int .i64 4, .int .i64 v.n, .string ⟨#[]⟩])) 20 61 true).run Tryz.prog w = .ok (.tuple #[.agg #[.int .i64 4, .int .i64 v.n, .string ⟨#[]⟩], .bool true]) w := fun _ => by kernel_rfl
  go_wp2_with fail
  go_ret
  exact ⟨by rw [HK.out]; rfl, K2.out⟩
theorem kids_at {w : World} {P : Nat → Prop} {a : Option Addr} {c : Nat} {ks : List ExprD} (h : ListAt exprL w P (.slice a ks.length c) ks) {i : Nat} {o n : Int} {s : ByteArray} {l : List ExprD} (hk : ks[i]? = some (.mk o n s l)) :
 ∃ g off a' c', a = some ⟨g, off, none⟩ ∧ KidAt w g (off + i * 4) o n s a' l.length c' ∧ ExprAt w P (.mk o n s l) [.int .i64 o, .int .i64 n, .string s, .slice a' l.length c'] := by
 obtain ⟨g, off, c', hv, hnc, _, _, _⟩ := h.addr (by intro e; subst e; simp at hk)
 simp only [Value.slice.injEq] at hv
 obtain ⟨rfl, -, rfl⟩ := hv
 obtain ⟨cs, hcs, hcell⟩ := h.get hk
 have hcs : ExprAt w P (.mk o n s l) cs := hcs
 obtain ⟨a9, c9, rfl, _⟩ := ExprAt.parts hcs
 exact ⟨g, off, a9, c9, rfl, ⟨by simpa [exprL] using hcell 0 _ rfl, by simpa [exprL] using hcell 1 _ rfl, by simpa [exprL] using hcell 2 _ rfl, by simpa [exprL] using hcell 3 _ rfl⟩, hcs⟩
theorem evalR_ok (names : List ByteArray) (vals : List ValD) (hv : ∀ v ∈ vals, checkD v = true ∧ v.s.size ≤ 1000000) : ∀ (e : ExprD) (v : ValD) (cs : List Value) (P : Nat → Prop) (wb : Nat) (w : World), Tabs w → WithAt w wb names vals → ExprAt w P e cs → okE e → evalQ e names vals = some v →
 Calls Tryz.prog 256 #[.pointer (some ⟨wb, 0, none⟩), .agg cs.toArray] w fun e w' => e = .returned (boxV v) ∧ Keeps [] w w'
 | .mk o n s ks, v, cs, P, wb, w, hT, hW, hat, hok, h => by
   have IH : ∀ k ∈ ks, ∀ (v : ValD) (cs : List Value) (P : Nat → Prop) (wb : Nat) (w : World), Tabs w → WithAt w wb names vals → ExprAt w P k cs → okE k → evalQ k names vals = some v →
    Calls Tryz.prog 256 #[.pointer (some ⟨wb, 0, none⟩), .agg cs.toArray] w fun e w' => e = .returned (boxV v) ∧ Keeps [] w w' := fun k hk => evalR_ok names vals hv k
   obtain ⟨a, c, rfl, hls⟩ := hat.parts
   have hkid : ∀ (i : Nat) (o1 n1 : Int) (s1 : ByteArray) (l1 : List ExprD) (u : ValD), ks[i]? = some (.mk o1 n1 s1 l1) → evalQ (.mk o1 n1 s1 l1) names vals = some u → ∃ g off a' c', a = some ⟨g, off, none⟩ ∧ KidAt w g (off + i * 4) o1 n1 s1 a' l1.length c' ∧ KidC w wb o1 n1 s1 a' l1.length c' u := fun i o1 n1 s1 l1 u hk hu => by
    obtain ⟨g, off, a', c', h1, h2, h3⟩ := kids_at hls hk
    exact ⟨g, off, a', c', h1, h2, evalQ_ok names vals hv _ _ hu, fun wx k => IH _ (List.mem_of_getElem? hk) u _ P wb wx (hT.k k) (hW.k k) (ExprAt.keep k (fun _ _ => by simp) h3) (hok.parts.2.1 _ (List.mem_of_getElem? hk)) hu⟩
   have hlen := (aloneD_parts hok.parts.1).1
   clear IH hat
   rw [evalQ] at h
   split at h
   ·rename_i ho
    subst ho
    cases h
    rw [boxV_int]
    exact evR_num w wb n s a ks.length c
   ·split at h
    ·rename_i ho
     subst ho
     exact evR_name w wb n s a ks.length c _ (fun wx k => evNamed_ok s names vals v wb wx (hT.k k) (hW.k k) h)
    ·split at h
     ·rename_i ho
      subst ho
      obtain ⟨u, hu, rfl⟩ := Option.map_eq_some_iff.1 h
      rw [boxV_tru]
      obtain ⟨k0, hk0⟩ : ∃ k0, ks[0]? = some k0 := ⟨_, List.getElem?_eq_getElem (by have : (ks.length : Int) = 1 := hlen; omega)⟩
      obtain ⟨o1, n1, s1, l1⟩ := k0
      have hd : ks.getD 0 noExpr = .mk o1 n1 s1 l1 := by rw [List.getD_eq_getElem?_getD, hk0]; rfl
      rw [hd] at hu
      obtain ⟨g, off, a', c', rfl, h2, h3⟩ := kids_at hls hk0
      exact evR_has w wb g off n s ks.length c u o1 n1 s1 a' l1.length c' (by have : (ks.length : Int) = 1 := hlen; omega) (by simpa using h2) (namedQ_ok hv hu).1 (fun wx k => evNamed_ok s1 names vals u wb wx (hT.k k) (hW.k k) hu)
     ·match ks, hls, hkid, hlen, h with
      | [], _, _, _, h => rw [lazyQ] at h; cases h
      | k0 :: r, hls, hkid, hlen, h9 =>
        obtain ⟨o1, n1, s1, l1⟩ := k0
        rw [lazyQ] at h9
        cases hx : evalQ (.mk o1 n1 s1 l1) names vals with
        | none =>
          simp only [hx] at h9
          repeat' split at h9
          all_goals cases h9
        | some x =>
          obtain ⟨g, off, a', c', rfl, hk2, hc2⟩ := hkid 0 o1 n1 s1 l1 x rfl hx
          have hk2 : KidAt w g off o1 n1 s1 a' l1.length c' := by simpa using hk2
          have hm : 1 ≤ (ExprD.mk o1 n1 s1 l1 :: r).length := by simp
          simp only [hx] at h9
          split at h9
          ·rename_i ho
           have hr : r.length = 1 := by
            have h2 : kidsN o = 2 := by unfold kidsN; rw [if_neg (by omega), if_neg (by omega), if_pos (.inl (by omega))]
            rw [h2] at hlen
            simp at hlen
            omega
           obtain ⟨k1, rfl⟩ := List.length_eq_one_iff.1 hr
           obtain ⟨o2, n2, s2, l2⟩ := k1
           split at h9
           ·rename_i hf
            cases h9
            have he : (needD x [1]).1 = twoV x val0 := (if_pos hf).symm
            rw [he]
            exact evR_number w wb o n s _ _ c _ (by omega) (fun wx k => evNumber_fail wx wb g off c o n s o1 n1 s1 a' l1.length c' 0 0 ⟨#[]⟩ none 0 0 x val0 (hT.k k) (hk2.k k) (hc2.k k) (fun h => by rw [hf] at h; cases h) ho (fun h => by rw [hf] at h; cases h))
           ·rename_i hf
            rw [divQ] at h9
            cases hy : evalQ (.mk o2 n2 s2 l2) names vals with
            | none => simp only [hy] at h9; cases h9
            | some u =>
              simp only [hy] at h9
              obtain ⟨g2, off2, a2, c2, hga, hk3, hc3⟩ := hkid 1 o2 n2 s2 l2 u rfl hy
              simp only [Option.some.injEq, Addr.mk.injEq, and_true] at hga
              obtain ⟨rfl, rfl⟩ := hga
              have hk3 : KidAt w g (off + 4) o2 n2 s2 a2 l2.length c2 := by simpa using hk3
              have hfin : v = twoV x u ∧ ((needD u [1]).2 = true → o = 10 ∧ u.n = 0) := by
               split at h9
               ·rename_i hg
                cases h9
                exact ⟨((if_neg hf).trans (if_pos hg)).symm, fun h => by rw [hg] at h; cases h⟩
               ·rename_i hg
                split at h9
                ·rename_i hz
                 cases h9
                 exact ⟨((if_neg hf).trans (if_neg hg)).symm, fun _ => hz⟩
                ·cases h9
              rw [hfin.1]
              exact evR_number w wb o n s _ _ c _ (by omega) (fun wx k => evNumber_fail wx wb g off c o n s o1 n1 s1 a' l1.length c' o2 n2 s2 a2 l2.length c2 x u (hT.k k) (hk2.k k) (hc2.k k) (fun _ => ⟨hk3.k k, hc3.k k⟩) ho (fun _ h => hfin.2 h))
          ·split at h9
           ·rename_i _ ho
            subst ho
            refine evR_truth w wb 18 n s _ _ c _ (by decide) (fun wx k => evTruth_decided wx wb g off _ c 18 n s _ (by decide) (fun wy k' => ?_))
            have kk := k.trans k' (fun _ _ h => h)
            split at h9
            ·rename_i hf
             cases h9
             exact evDecided_fail wy wb g off _ c 18 n s o1 n1 s1 a' l1.length c' x (hT.k kk) hm (hk2.k kk) (hc2.k kk) hf
            ·rename_i hf
             split at h9
             ·cases h9
             ·rename_i hn1
              have hr : r.length = 2 := by
               have h2 : kidsN 18 = 3 := by decide
               rw [h2] at hlen
               simp at hlen
               omega
              match r, hr, hkid, hlen, h9, hm with
              | [k1, k2], _, hkid, _, h9, hm =>
                obtain ⟨o2, n2, s2, l2⟩ := k2
                rw [elseQ] at h9
                obtain ⟨g2, off2, a2, c2, hga, hk3, hc3⟩ := hkid 2 o2 n2 s2 l2 v rfl h9
                simp only [Option.some.injEq, Addr.mk.injEq, and_true] at hga
                obtain ⟨rfl, rfl⟩ := hga
                have hx2 : x = ⟨2, 0, ⟨#[]⟩⟩ := by
                 have hkd : x.kind = 2 := by
                  unfold needD at hf
                  split at hf
                  ·simp at hf
                  ·split at hf
                   ·rename_i h2
                    simpa using h2
                   ·simp at hf
                 rcases box_forms hc2.1.1 with ⟨h1, _⟩ | ⟨h1, _⟩ | ⟨h1, _⟩ | ⟨h1, _⟩ | ⟨h1, _, _⟩ | ⟨h1, _⟩
                 ·rw [h1] at hkd; exact absurd hkd (by decide)
                 ·rw [h1] at hkd; exact absurd hkd (by show ¬ (1 : Int) = 2; decide)
                 ·rw [h1] at hn1; exact absurd rfl hn1
                 ·exact h1
                 ·rw [h1] at hkd; exact absurd hkd (by show ¬ (3 : Int) = 2; decide)
                 ·rw [h1] at hkd; exact absurd hkd (by show ¬ (4 : Int) = 2; decide)
                exact evDecided_else wy wb g off _ c 18 n s o1 n1 s1 a' l1.length c' x (hT.k kk) hm (hk2.k kk) (hc2.k kk) hx2 rfl o2 n2 s2 a2 l2.length c2 v (by simp) ((by simpa using hk3 : KidAt w g (off + 8) o2 n2 s2 a2 l2.length c2).k kk) (hc3.k kk)
           ·split at h9
            ·rename_i _ _ ho
             split at h9
             ·rename_i hf
              cases h9
              exact evR_text w wb o n s _ _ c _ ho (fun wx k => evText_fail wx wb g off _ c o n s o1 n1 s1 a' l1.length c' x (hT.k k) hm (hk2.k k) (hc2.k k) hf)
             ·cases h9
            ·split at h9
             ·rename_i _ _ _ ho
              split at h9
              ·rename_i hf
               cases h9
               refine evR_truth w wb o n s _ _ c _ (by omega) (fun wx k => evTruth_decided wx wb g off _ c o n s _ (by omega) (fun wy k' => ?_))
               have kk := k.trans k' (fun _ _ h => h)
               exact evDecided_fail wy wb g off _ c o n s o1 n1 s1 a' l1.length c' x (hT.k kk) hm (hk2.k kk) (hc2.k kk) hf
              ·cases h9
             ·by_cases ho : o = 12 ∨ o = 14
              ·rw [if_pos ho] at h9
               refine evR_truth w wb o n s _ _ c _ (by omega) (fun wx k => ?_)
               rcases ho with rfl | rfl
               ·rw [show (if (12 : Int) = 14 then ([1, 3] : List Int) else [1, 3, 2]) = [1, 3, 2] from if_neg (by decide)] at h9
                split at h9
                ·rename_i hf
                 cases h9
                 exact evTruth_fail12 wx wb g off _ c n s o1 n1 s1 a' l1.length c' x (hT.k k) hm (hk2.k k) (hc2.k k) hf
                ·rw [if_neg (by decide)] at h9; cases h9
               ·rw [show (if (14 : Int) = 14 then ([1, 3] : List Int) else [1, 3, 2]) = [1, 3] from if_pos rfl] at h9
                split at h9
                ·rename_i hf
                 cases h9
                 exact evTruth_fail14 wx wb g off _ c n s o1 n1 s1 a' l1.length c' x (hT.k k) hm (hk2.k k) (hc2.k k) hf
                ·rename_i hf
                 rw [if_pos rfl] at h9
                 have hr : r.length = 1 := by
                  have h2 : kidsN 14 = 2 := by decide
                  rw [h2] at hlen
                  simp at hlen
                  omega
                 obtain ⟨k1, rfl⟩ := List.length_eq_one_iff.1 hr
                 obtain ⟨o2, n2, s2, l2⟩ := k1
                 rw [cmpQ] at h9
                 cases hy : evalQ (.mk o2 n2 s2 l2) names vals with
                 | none => simp only [hy] at h9; cases h9
                 | some u =>
                   simp only [hy] at h9
                   obtain ⟨g2, off2, a2, c2, hga, hk3, hc3⟩ := hkid 1 o2 n2 s2 l2 u rfl hy
                   simp only [Option.some.injEq, Addr.mk.injEq, and_true] at hga
                   obtain ⟨rfl, rfl⟩ := hga
                   have hk3 : KidAt w g (off + 4) o2 n2 s2 a2 l2.length c2 := by simpa using hk3
                   split at h9
                   ·rename_i hg
                    cases h9
                    exact evTruth_second14 wx wb g off c n s o1 n1 s1 a' l1.length c' o2 n2 s2 a2 l2.length c2 x u (hT.k k) (hk2.k k) (hc2.k k) (hk3.k k) (hc3.k k) (by simpa using hf) hg
                   ·cases h9
              ·rw [if_neg ho] at h9
               cases h9
termination_by e => e
decreasing_by
 have := List.sizeOf_lt_of_mem hk
 simp
 omega
end Go.Proofs.YtgjiahilbmeaeaaGreatDoor