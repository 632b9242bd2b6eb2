/- Joined of LawE, Place, Open, LawZ. -/
import Derived.Test.YtbbdmmhpbeleoaaGreatDoorQ31
import Derived.LaidLaws
import Derived.Test.YtbbdmmhpbeleoaaGreatDoorRows
import Derived.Test.YtbbdmmhpbeleoaaGreatDoorQ04
import Derived.Test.YtbbdmmhpbeleoaaGreatDoorQ19
import Derived.Test.YtbbdmmhpbeleoaaGreatDoorQ00
import Derived.Deep.Slices
import Derived.ProofKit
import Derived.SizedLaws

set_option linter.unusedSimpArgs false
set_option linter.unusedVariables false

/- strconv's two errors, laid. No function is named here. -/
namespace Go.Proofs.YtbbdmmhpbeleoaaGreatDoor
open Go Go.RowKit Go.WideShapes Go.ChangeShapes Go.ChangeAt

theorem err_of_laid {l : List (String × DataW Unit)} {W : World} (h : laidMet Tryz.prog l W) {nm : String} {x : DataW Unit} {g : Nat} (hg : Tryz.prog.globalNamed nm = some g) (ht : (Tryz.prog.globals[g]?).map (·.type) = some 143) (hm : (nm, .iface "*errors.errorString" x) ∈ l) : ∃ tp p, W.var? Tryz.prog nm = some #[.iface tp p] := by
  obtain ⟨g', t, cs, fuel, p, hg', hty, hvar, hd⟩ := Lib.laidMet.reads h hm
  obtain rfl := Option.some.inj (hg.symm.trans hg')
  obtain rfl := Option.some.inj (ht.symm.trans hty)
  obtain ⟨_, u, v, hc, _⟩ := iface_of_trod Tryz.underlying143 hd
  refine ⟨u, v, ?_⟩
  rw [hvar]
  congr 1
  exact Array.toList_inj.1 hc
theorem errs_of_laid {l : List (String × DataW Unit)} {W : World} (h : laidMet Tryz.prog l W) (h1 : ("strconv.ErrSyntax", Rows.laid_strconv_ErrSyntax) ∈ l) (h2 : ("strconv.ErrRange", Rows.laid_strconv_ErrRange) ∈ l) : Errs W :=
  ⟨err_of_laid h (g := 2) (by kernel_rfl) (by kernel_rfl) h1, err_of_laid h (g := 3) (by kernel_rfl) (by kernel_rfl) h2⟩

end Go.Proofs.YtbbdmmhpbeleoaaGreatDoor

/- Place and Bytes of the laws; plain.List of bytes. -/
namespace Go.Proofs.YtbbdmmhpbeleoaaGreatDoor
open Go Go.RowKit

/-- Which place a number is. -/
def placeOf (v n : Int) : Int := if v.tmod n < 0 then v.tmod n + n else v.tmod n
theorem placeOf_bd (v n : Int) (h : 0 < n) : 0 ≤ placeOf v n ∧ placeOf v n < n := by
  have a1 : v.tmod n < n := Int.tmod_lt_of_pos v h
  have a2 := Int.lt_tmod_of_pos v h
  unfold placeOf
  split <;> omega

set_option maxHeartbeats 400000 in
theorem place_any (v n : Int) (w : World) (h0 : 0 < n) (h1 : n ≤ 1000000000) (_wv : (Lit.int .i64 v).wf = true) :
    Calls Tryz.prog 19 #[.int .i64 v, .int .i64 n] w fun e w' => e = .returned (.int .i64 (placeOf v n)) ∧ w' = w := by
  have hn : n ≠ 0 := by omega
  have a1 : v.tmod n < n := Int.tmod_lt_of_pos v h0
  have a2 : -n < v.tmod n := by have := Int.lt_tmod_of_pos v h0; omega
  by_cases hc : v.tmod n < 0
  · go_enter Tryz.func19, Tryz.ntmps19
    go_wp2
    go_ret
    exact ⟨by simp [placeOf, hc], rfl⟩
  · go_enter Tryz.func19, Tryz.ntmps19
    go_wp2
    go_ret
    have e : placeOf v n = v.tmod n := by rw [placeOf, if_neg (by omega)]
    exact ⟨by rw [e]; rfl, rfl⟩

theorem place_is (p v n : Int) (w : World) (h0 : 0 < n) (h1 : n ≤ 1000000000) (wv : (Lit.int .i64 v).wf = true) (hp : placeOf v n = p) :
    Calls Tryz.prog 19 #[.int .i64 v, .int .i64 n] w fun e w' => e = .returned (.int .i64 p) ∧ w' = w := by rw [← hp]; exact place_any v n w h0 h1 wv


/-- What a copy of bytes leaves. -/
def Copied (bs : List UInt8) (w : World) (e : Ending) (w' : World) : Prop := ∃ a c, e = .returned (.slice a bs.length c) ∧ w'.ownsRow w.heap.size 5 1 (.slice a bs.length c) bs.length (u8s bs) ∧ Keeps [] w w'
theorem Copied.bytes {bs : List UInt8} {w w' : World} {P : Nat → Prop} {a : Option Addr} {c : Nat} (h : w'.ownsRow w.heap.size 5 1 (.slice a bs.length c) bs.length (u8s bs)) (hP : ∀ b, w.heap.size ≤ b → b < w'.heap.size → P b) : BytesAt w' P (.slice a bs.length c) bs := BytesAt.ofOwn h rfl hP

set_option maxHeartbeats 400000 in
theorem lawBytes_any (v : Value) (bs : List UInt8) (w : World) (hr : Reads w 1 v bs.length (u8s bs)) (hb : bs.length ≤ 140737488355328) : Calls Tryz.prog 20 #[v] w (Copied bs w) := by
  obtain ⟨i0, hi, hz0, hz1, hz2⟩ := info_parts Tryz.infoU8
  go_enter Tryz.func20, Tryz.ntmps20
  go_wp2_with (at_builtin; refine wpList_append_copy _ rfl (.tmp 3) 28 rfl 5 i0 (.int .u8 0) 1 1 Tryz.underlying28 hi hz0 hz1 hz2 rfl (by decide) v bs.length (u8s bs) rfl hr (u8s_one bs) (by omega) (le_maxLen (by omega)) ?_)
  intro v' w' h1 h2
  obtain ⟨a, c, hv⟩ := len_form h1
  have H := hid hv
  clear hv
  go_wp2
  go_ret
  exact ⟨a, c, congrArg Ending.returned H.out, by rw [← H.out]; exact h1, Keeps.ofGrown h2 (fun _ h => by cases h)⟩

end Go.Proofs.YtbbdmmhpbeleoaaGreatDoor

/- THE ARGUMENTS OF THE LAWS, OPENED: slices of bytes, of ints, and single ints, as the walks want them. No function is named here. -/
namespace Go.Proofs.YtbbdmmhpbeleoaaGreatDoor
open Go Go.RowKit Go.WideShapes Go.ChangeShapes Go.Deep

theorem spot_of_cell {w : World} {a : Addr} {v : Value} (h : w.cell? a = some v) : a.spot = none := by
  unfold World.cell? at h
  split at h
  · split at h
    · cases h
    · rename_i hs; simpa using hs
  · cases h

theorem addr_at {a : Addr} (h : a.spot = none) (i : Nat) : a.add i = ⟨a.block, a.off + i, none⟩ := by
  unfold Addr.add
  cases a; simp at h; subst h
  split
  · rename_i h0; subst h0; rfl
  · rfl

theorem block_lt {w : World} {a : Addr} {v : Value} (h : w.cell? a = some v) : a.block < w.heap.size := by
  unfold World.cell? at h
  split at h
  · rename_i hs; exact (Array.getElem?_eq_some_iff.1 hs).1
  · cases h

/-- The bytes of numbers. -/
def ofNums (zs : List Int) : List UInt8 := zs.map fun z => UInt8.ofNat z.toNat

theorem ofNums_get {zs : List Int} (h : ∀ n ∈ zs, (Lit.int .u8 n).wf = true) {i : Nat} (hi : i < zs.length) : (u8s (ofNums zs))[i]? = some (.int .u8 (zs.getD i 0)) := by
  have hw := h zs[i] (List.getElem_mem hi)
  have hb : 0 ≤ zs[i] ∧ zs[i] < 256 := by
    have e1 : IntKind.u8.min = 0 := by rfl
    have e2 : IntKind.u8.max = 255 := by rfl
    simp [Lit.wf, e1, e2] at hw
    omega
  simp [u8s, ofNums, List.getD, List.getElem?_eq_getElem hi]
  omega

section
variable {H : Type} {enc : TypeId × Value → H}

/-- A SLICE OF BYTES. -/
theorem open_bytes {w : World} {fuel : Nat} {cs : List Value} {x : DataW H × List MemPlace} (h : DataW.trod enc Tryz.prog w 0 (fun _ => true) true fuel 28 cs = some x) :
    ∃ (a : Option Addr) (c : Nat) (bs : List UInt8), cs = [.slice a bs.length c] ∧ Reads w 1 (.slice a bs.length c) bs.length (u8s bs) ∧ ∀ k ∈ ownB (.slice a bs.length c), bs.length ≠ 0 → k < w.heap.size := by
  rcases open_ints Tryz.underlying28 Tryz.underlying5 (by kernel_rfl) h with ⟨rfl, _⟩ | ⟨a, len, cap, zs, rfl, _, hlc, hcm, hzs, _, hc, hw⟩
  · exact ⟨none, 0, [], rfl, ⟨rfl, .inl ⟨rfl, _, _, rfl⟩⟩, fun k _ h => absurd rfl h⟩
  · simp only [if_true] at hzs
    have hl : (ofNums (zs.take len)).length = len := by simp [ofNums]; omega
    refine ⟨some a, cap, ofNums (zs.take len), by rw [hl], ?_, ?_⟩
    · refine ⟨by simp [u8s], ?_⟩
      rcases Nat.eq_zero_or_pos len with rfl | hp
      · exact .inl ⟨hl, _, _, by rw [hl]⟩
      · have h0 := hc 0 (by omega)
        have hs : a.spot = none := by simpa [Addr.add] using spot_of_cell h0
        obtain ⟨b, off, sp⟩ := a
        simp at hs
        subst hs
        refine .inr ⟨by omega, b, off, cap, by rw [hl], by omega, hcm, by simpa [Addr.add] using block_lt h0, fun j u hu => ?_⟩
        have hj : j < len := by have := (List.getElem?_eq_some_iff.1 hu).1; simp [hl] at this; exact this
        rw [ofNums_get (fun n hn => hw n (List.mem_of_mem_take hn)) (by simp; omega)] at hu
        have := hc j (by omega)
        rw [addr_at rfl] at this
        simp at this
        rw [this, ← hu]
        simp [List.getD, List.getElem?_take, hj]
    · intro k hk h0
      have h1 := hc 0 (by omega)
      have h2 := block_lt h1
      simp [mem_ownB, Value.ownBlock, Addr.add] at hk h2
      omega

theorem open_num {w : World} {fuel : Nat} {t : TypeId} {k : IntKind} {cs : List Value} {x : DataW H × List MemPlace} (ht : Tryz.prog.underlying t = some (.int k)) (h : DataW.trod enc Tryz.prog w 0 (fun _ => true) true fuel t cs = some x) :
    ∃ n, cs = [.int k n] ∧ (Lit.int k n).wf = true := by
  obtain ⟨n', h, hx, hw⟩ := DataW.trod_int ht h
  exact ⟨n', h, hw⟩

/-- A SLICE OF BYTES that comes in. -/
theorem open_bytes_arg {w : World} {a : Option Addr} {len cap : Nat} {d : DataW H} {ps : List MemPlace} (h : DataW.Trod enc Tryz.prog w 0 (fun _ => true) true 28 (.slice a len cap) d ps) :
    ∃ bs : List UInt8, bs.length = len ∧ Reads w 1 (.slice a bs.length cap) bs.length (u8s bs) ∧ ∀ k ∈ ownB (.slice a bs.length cap), bs.length ≠ 0 → k < w.heap.size := by
  obtain ⟨fuel, h⟩ := h
  obtain ⟨a', c', bs, e, hr, hb⟩ := open_bytes h
  simp [Value.cells] at e
  obtain ⟨rfl, rfl, rfl⟩ := e
  exact ⟨bs, rfl, hr, hb⟩
end

end Go.Proofs.YtbbdmmhpbeleoaaGreatDoor

/- The frame of a law (LawL), with the arguments' sizes handed on; how long a slice of bytes may be. No function is named here. -/
namespace Go.Proofs.YtbbdmmhpbeleoaaGreatDoor
open Go Go.RowKit Go.WideShapes Go.ChangeShapes Go.ChangeAt

theorem bytes_short {H : Type} {enc : TypeId × Value → H} {w : World} {a : Option Addr} {len cap : Nat} {d : DataW H} {ps : List MemPlace} (h : DataW.Trod enc Tryz.prog w 0 (fun _ => true) true 28 (.slice a len cap) d ps)
    (hz : ∀ (elems spare : List (DataW H)), d = .slice elems spare → (elems.length + spare.length) * Tryz.prog.bytesOf 5 ≤ reachBytes) : len ≤ 140737488351232 := by
  obtain ⟨fuel, h⟩ := h
  rcases DataW.trod_slice Tryz.underlying28 h with ⟨e, _⟩ | ⟨a', len', cap', elems, rest, m, _, e, hx, _, _, _, hl, _⟩
  · simp [Value.cells] at e
    omega
  · simp [Value.cells] at e
    obtain ⟨_, rfl, _⟩ := e
    have hd : d = .slice (elems.map (·.1)) (rest.map (·.1)) := congrArg Prod.fst hx
    have := hz _ _ hd
    rw [show Tryz.prog.bytesOf 5 = 1 by kernel_rfl, show reachBytes = 140737488351232 from rfl] at this
    simp at this
    omega

set_option maxRecDepth 100000 in
/-- From the contract to the row's premise, where variables are listed; the arguments' sizes are handed on. -/
theorem laid_lifted_sized {k : FuncId} {fn : Func} {s : ChangeSpec} {fresh handsOn : Bool} {l : List (String × DataW Unit)} (os : Os) (started : os.Started) (H : Type) (enc : TypeId × Value → H)
    (noInit : Tryz.checked.prog.inits.idxOf? k = none) (hfn : Tryz.checked.prog.funcs[k]? = some fn) (hres : fn.resultTypes = #[4]) (hvars : s.vars = []) (hall : (fn.params.toList.all fun t => Tryz.prog.readableRec t && decide (t < Tryz.prog.types.size)) = true)
    (hspec : ∀ ds : List (DataW H), ds.length = fn.params.size → s.fn H ds = { results := [.lit (.bool true)], args := ds })
    (witness : ∃ (w : World) (tape : Tape) (i : Input), w.os = os ∧ (w.forCall tape i).Shaped Tryz.checked.prog ∧ i.vars = [] ∧ Input.okWide Tryz.checked.prog (w.forCall tape i) .any w.heap.size k i ∧
      ((s.pre enc Tryz.checked.prog fn [] false (w.forCall tape i).memory i.args ∧ laidMetH Tryz.prog l (w.forCall tape i).memory) ∧ sizedMet enc Tryz.checked.prog fn (OpenSpec.ofChange s) false (w.forCall tape i).memory i.args) ∧ ({} : Assume).holds Tryz.checked.prog (lone (Frame.enter Tryz.checked.prog k i.args .normal) [] (w.forCall tape i)))
    (contract : ∀ (W : World) (base : Nat) (args : Array Value) (ds : List (DataW H)) (p : List MemPlace), (∀ (j : Nat) t v, fn.params[j]? = some t → args[j]? = some v → Value.okWide Tryz.prog W .any base t v) →
      DataW.TrodAll enc Tryz.prog W 0 (fun _ => true) true fn.params.toList args.toList ds p → (∀ x ∈ p, x.block < W.heap.size) → laidMetH Tryz.prog l W → (∀ (j : Nat) (t e : TypeId) (elems spare : List (DataW H)), fn.params[j]? = some t → ds[j]? = some (.slice elems spare) → Tryz.prog.underlying t = some (.slice e) → (elems.length + spare.length) * Tryz.prog.bytesOf e ≤ reachBytes) → Calls Tryz.prog k args W fun e W' => e = .returned (.bool true) ∧ Below W.heap.size W W') :
    ReturnsInHanded {} Tryz.checked os k .any (fun w args => (s.pre enc Tryz.prog fn [] false w args ∧ laidMetH Tryz.prog l w) ∧ sizedMet enc Tryz.prog fn (OpenSpec.ofChange s) false w args) (s.post enc Tryz.prog fn false fresh handsOn false) := by
  refine returnsInHanded_of_change_and (C := Tryz.checked) (X := fun w _ => laidMetH Tryz.prog l w) (fun _ _ _ hh h => h.of_heap hh) Tryz.own started noInit hfn witness ?_
  intro W base args ds gs before hval0 hW hc hZ hL _
  have hlt : ∀ x ∈ before, x.block < W.heap.size := fun x hx => hW.lt x hx
  have hW' := hW
  obtain ⟨p, q, hA, hV, rfl, hz, hn⟩ := hW
  refine (contract W base args ds p hval0 hA (fun x hx => hlt x (List.mem_append_left _ hx)) hL (fun j t e elems spare ht hd hu => sized_slice hZ (j := j) (t := t) (by rw [List.getElem?_append_left (by have := (Array.getElem?_eq_some_iff.1 ht).1; simpa using this)]; simpa using ht) (by rw [List.getElem?_append_left (List.getElem?_eq_some_iff.1 hd).1]; exact hd) hu)).mono fun e W' ⟨he, hb⟩ => ?_
  subst he
  exact ⟨_, rfl, law_post Tryz.laidOut Tryz.underlying4 hres hvars hall hspec hW' hb⟩

end Go.Proofs.YtbbdmmhpbeleoaaGreatDoor
