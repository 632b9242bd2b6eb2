/- Joined of FmA, FmB, FmC, FmD. -/
import Derived.Test.YtgjiahilbmeaeaaGreatDoorR22
set_option linter.unusedSimpArgs false
set_option linter.unusedVariables false
/- The five forms, plain: each is a form; over blank inputs each formula comes «to» something that is told. -/
namespace Go.Proofs.YtgjiahilbmeaeaaGreatDoor
open Go Go.RowKit
def schQ (l : List FldD) : Option (List SfdD) :=
 match fieldsD (l.map (·.name)) (l.map (·.typ)) l with
 | none => none
 | some fs =>
   let od := (orderQ l.length (fs.map (·.needs))).1
   if od.length = l.length ∧ (od.all fun i => decide (i < l.length)) = true then
    (match workQ fs (fs.map fun x => str x.f.name) (od.filter (isF fs)) (List.replicate l.length val0) with
    | none => none
    | some _ => some fs)
   else none
def endsB (s : List UInt8) : Bool := decide ((lexR s).1.length ≤ 1000) && decide (0 < (lexR s).1.length) && decide ((tokAt (lexR s).1 ((lexR s).1.length - 1)).kind = 0)
theorem parse_of {s : List UInt8} {e : ExprD} (h : parseD s = some e) (hb : endsB s = true) : parseP 2000 s e := by
 unfold parseD at h
 split at h
 ·cases h
 ·rename_i h0
  unfold endsB at hb
  simp only [Bool.and_eq_true, decide_eq_true_eq] at hb
  split at h
  ·rename_i e' j hr
   split at h
   ·rename_i hok
    cases h
    exact ⟨by simpa using h0, ⟨hb.1.1, hb.2⟩, hb.1.2, ⟨_, hr⟩, hok⟩
   ·cases h
  ·cases h
theorem exOk_of {s : List UInt8} {o : Option ExprD} {names : List ByteArray} {types : List Int} {t : Int} (h : exprD s = some o) (ht : typed o t names types = true) (hb : endsB s = true ∨ s = []) : ExOk s o names types t := by
 unfold exprD at h
 split at h
 ·rename_i h0
  cases h
  exact h0
 ·rename_i h0
  split at h
  ·cases h
  ·rename_i e hp
   cases h
   unfold typed at ht
   simp only [Bool.and_eq_true, decide_eq_true_eq] at ht
   refine ⟨h0, ⟨2000, parse_of hp (hb.resolve_right h0)⟩, Prod.ext ht.2 ht.1⟩
theorem fieldD_f {names : List (List UInt8)} {types : List Int} {f : FldD} {x : SfdD} (h : fieldD names types f = some x) : x.f = f ∧ exprD f.formula = some x.formula ∧ exprD f.rule = some x.rule ∧ exprD f.shown = some x.shown ∧ typed x.formula f.typ (names.map str) types = true ∧ typed x.rule 2 (names.map str) types = true ∧ typed x.shown 2 (names.map str) types = true ∧ x.needs = needsD x.formula names := by
 unfold fieldD at h
 split at h
 ·rename_i a b c h1 h2 h3
  split at h
  ·rename_i ht
   cases h
   exact ⟨rfl, h1, h2, h3, ht.1, ht.2.1, ht.2.2, rfl⟩
  ·cases h
 ·cases h
theorem fieldsD_all {names : List (List UInt8)} {types : List Int} : ∀ {l : List FldD} {fs : List SfdD}, fieldsD names types l = some fs → fs.map (·.f) = l ∧ ∀ x ∈ fs, fieldD names types x.f = some x
 | [], fs, h => by
   rw [fieldsD] at h
   cases h
   exact ⟨rfl, fun x hx => by cases hx⟩
 | f :: r, fs, h => by
   rw [fieldsD] at h
   split at h
   ·rename_i x l' hx hl
    cases h
    have ih := fieldsD_all hl
    have hf := (fieldD_f hx).1
    refine ⟨by simp [hf, ih.1], fun y hy => ?_⟩
    rcases List.mem_cons.1 hy with rfl | hy
    ·rw [hf]; exact hx
    ·exact ih.2 y hy
   ·cases h
def textB (s : List UInt8) : Bool := decide (s = []) || endsB s
def needB (names : List (List UInt8)) (x : SfdD) : Bool := match x.formula with
 | none => true
 | some e => exprOk e && (decide ((namesB e).length ≤ 1000) && (decide ((namesD e).length ≤ 1000) && (namesD e).all fun s => decide (s ∈ names) && decide (s.length ≤ 1000)))
def formB (l : List FldD) (fs : List SfdD) : Bool :=
 decide (1 ≤ l.length ∧ l.length ≤ 24) && (decide (l.map (·.name)).Nodup && ((l.all fun f => nameD (str f.name) && (decide (f.name.length ≤ 1000) && (decide (1 ≤ f.typ ∧ f.typ ≤ 3) && (textB f.formula && (textB f.rule && textB f.shown))))) && (fs.all fun x => needB (l.map (·.name)) x && decide (x.needs.length ≤ 1000))))
def fineB (l : List FldD) : Bool := match schQ l with
 | none => false
 | some fs => formB l fs
theorem fine0 : fineB form0 = true := by kernel_rfl
theorem fine1 : fineB form1 = true := by kernel_rfl
theorem fine2 : fineB form2 = true := by kernel_rfl
theorem fine3 : fineB form3 = true := by kernel_rfl
theorem fine4 : fineB form4 = true := by kernel_rfl
theorem fine_all (k : Int) : fineB (formD k) = true := by
 unfold formD
 split
 ·exact fine0
 ·split
  ·exact fine1
  ·split
   ·exact fine2
   ·split
    ·exact fine3
    ·exact fine4
structure FormOk (l : List FldD) (fs : List SfdD) (fin : List ValD) : Prop where
 map : fs.map (·.f) = l
 len : 1 ≤ l.length ∧ l.length ≤ 24
 nodup : (fs.map (·.f.name)).Nodup
 ok : ∀ x ∈ fs, nameD (str x.f.name) = true ∧ x.f.name.length ≤ 1000 ∧ 1 ≤ x.f.typ ∧ x.f.typ ≤ 3
 ex : ∀ x ∈ fs, ExOk x.f.formula x.formula (fs.map fun x => str x.f.name) (fs.map (·.f.typ)) x.f.typ ∧ ExOk x.f.rule x.rule (fs.map fun x => str x.f.name) (fs.map (·.f.typ)) 2 ∧ ExOk x.f.shown x.shown (fs.map fun x => str x.f.name) (fs.map (·.f.typ)) 2
 ne : ∀ x ∈ fs, NeOk (fs.map (·.f.name)) x
 small : ∀ y ∈ fs.map (·.needs), y.length ≤ 1000
 all : (orderQ l.length (fs.map (·.needs))).1.length = l.length
 lt : ∀ i ∈ (orderQ l.length (fs.map (·.needs))).1, i < l.length
 work : workQ fs (fs.map fun x => str x.f.name) ((orderQ l.length (fs.map (·.needs))).1.filter (isF fs)) (List.replicate l.length val0) = some fin
theorem form_ok {l : List FldD} (h : fineB l = true) : ∃ fs fin, FormOk l fs fin := by
 unfold fineB at h
 split at h
 ·cases h
 ·rename_i fs hq
  unfold schQ at hq
  split at hq
  ·cases hq
  ·rename_i fs' hfs
   dsimp only at hq
   split at hq
   ·rename_i hod
    split at hq
    ·cases hq
    ·rename_i fin hw
     cases hq
     obtain ⟨hmap, hall⟩ := fieldsD_all hfs
     have e1 : l.map (·.name) = fs.map (·.f.name) := by rw [← hmap, List.map_map]; rfl
     have e2 : (l.map (·.name)).map str = fs.map fun x => str x.f.name := by rw [e1, List.map_map]; rfl
     have e3 : l.map (·.typ) = fs.map (·.f.typ) := by rw [← hmap, List.map_map]; rfl
     unfold formB at h
     simp only [Bool.and_eq_true, decide_eq_true_eq, List.all_eq_true] at h
     obtain ⟨hlen, hnd, hl, hf⟩ := h
     have hmem : ∀ x ∈ fs, x.f ∈ l := fun x hx => by rw [← hmap]; exact List.mem_map.2 ⟨x, hx, rfl⟩
     have htx : ∀ {s : List UInt8}, textB s = true → endsB s = true ∨ s = [] := fun {s} h => by
      unfold textB at h
      simp only [Bool.or_eq_true, decide_eq_true_eq] at h
      exact h.symm
     refine ⟨fs, fin, hmap, hlen, by rw [← e1]; exact hnd, fun x hx => ?_, fun x hx => ?_, fun x hx => ?_, fun y hy => ?_, hod.1, fun i hi => ?_, hw⟩
     ·have := hl x.f (hmem x hx)
      exact ⟨this.1, this.2.1, this.2.2.1.1, this.2.2.1.2⟩
     ·have hb := (hl x.f (hmem x hx)).2.2.2
      obtain ⟨_, q1, q2, q3, q4, q5, q6, _⟩ := fieldD_f (hall x hx)
      rw [e2, e3] at q4 q5 q6
      exact ⟨exOk_of q1 q4 (htx hb.1), exOk_of q2 q5 (htx hb.2.1), exOk_of q3 q6 (htx hb.2.2)⟩
     ·have hb := (hf x hx).1
      have hn := (fieldD_f (hall x hx)).2.2.2.2.2.2.2
      rw [e1] at hb hn
      unfold needB at hb
      unfold NeOk
      unfold needsD at hn
      cases hx2 : x.formula with
      | none => rw [hx2] at hn; exact hn
      | some e =>
        rw [hx2] at hn hb
        simp only [Bool.and_eq_true, decide_eq_true_eq, List.all_eq_true] at hb
        exact ⟨hb.1, hb.2.1, hb.2.2.1, hb.2.2.2, hn⟩
     ·obtain ⟨x, hx, rfl⟩ := List.mem_map.1 hy
      exact (hf x hx).2
     ·have := List.all_eq_true.1 hod.2 i hi
      simpa using this
   ·cases hq
theorem forms_ok (k : Int) : ∃ fs fin, FormOk (formD k) fs fin := form_ok (fine_all k)
end Go.Proofs.YtgjiahilbmeaeaaGreatDoor