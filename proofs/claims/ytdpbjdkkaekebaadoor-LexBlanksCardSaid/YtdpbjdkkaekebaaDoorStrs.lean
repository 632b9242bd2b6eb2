/- Bytes made a text. No program is named here. -/
import Derived.Test.YtdpbjdkkaekebaaDoorRows2
namespace Go.Proofs.YtdpbjdkkaekebaaDoor
open Go Go.RowKit

/-- Bytes as a text. -/
def str (l : List UInt8) : ByteArray := ⟨l.toArray⟩
@[simp] theorem str_toList (l : List UInt8) : (str l).toList = l := ByteArray.toList_mk l
theorem foldl_push (l : List UInt8) : ∀ s : ByteArray, (l.map fun b => (b.toNat : Int)).foldl (fun r n => r.push (UInt8.ofNat n.toNat)) s = ⟨(s.data.toList ++ l).toArray⟩ := by
  induction l with
  | nil => intro s; simp
  | cons b l ih =>
    intro s
    simp only [List.map_cons, List.foldl_cons]
    rw [ih]
    simp [ByteArray.push]

theorem run_convert_str {P : Program} (w : World) (src dst e : TypeId) (v : Value) (bs : List UInt8) (hs : P.underlying src = some (.slice e)) (he : P.underlying e = some (.int .u8)) (hd : P.underlying dst = some .string)
    (hr : Reads w 1 v bs.length (u8s bs)) : (convert src dst v).run P w = .ok (.string (str bs)) w := by
  obtain ⟨hl, ⟨h0, a, c, rfl⟩ | ⟨hp, b, off, c, rfl, hnc, hc, hb, hx⟩⟩ := hr
  · obtain rfl : bs = [] := List.eq_nil_of_length_eq_zero h0
    rw [run_convert_bytes_string w src dst e a 0 c hs he hd]
    cases a with
    | none => rfl
    | some a =>
      rw [run_bytesToString w a 0 c [] (by simp [loadCells, loadCellsFrom])]
      rfl
  · rw [run_convert_bytes_string w src dst e _ _ c hs he hd]
    have hld : (loadCells ⟨b, off, none⟩ bs.length).run P w = .ok ((bs.map fun b => (b.toNat : Int)).map (Value.int .u8)).toArray w := by
      have := run_loadCells_list (P := P) w ⟨b, off, none⟩ (u8s bs) (fun j u hu => by rw [addr_add]; exact hx j u hu)
      rw [u8s_length] at this
      rw [this]
      simp [u8s, Function.comp_def]
    rw [run_bytesToString w _ _ c _ hld, foldl_push]
    rfl

end Go.Proofs.YtdpbjdkkaekebaaDoor
