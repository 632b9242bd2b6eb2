/- CmdBytes, walked. -/
import Derived.Test.YtbbdmmhpbeleoaaDoorCmK
namespace Go.Proofs.YtbbdmmhpbeleoaaDoor
open Go Go.RowKit

structure CmdI (c : CmdD) : Prop where
  kind : I64 c.kind
  session : I64 c.session
  seq : I64 c.seq
  version : I64 c.version
  vkind : I64 c.value.kind
  vn : I64 c.value.n
theorem CmdI.w {c : CmdD} (h : CmdI c) (hs : shortC c = true) : CmdW c := by
  unfold shortC at hs
  simp at hs
  exact ⟨h.kind, h.session, h.seq, h.version, h.vkind, h.vn, by omega, by omega⟩
theorem textL_len (s : ByteArray) (h : s.size ≤ 1000000) : (textL s).length ≤ 10 + s.size := by
  have := intL_len (show I64 (s.size : Int) from ⟨by omega, by omega⟩)
  have e : s.data.toList.length = s.size := by rw [Array.length_toList]; rfl
  unfold textL
  rw [List.length_append, e]
  omega
theorem putL_most (v : ValD) (hk : I64 v.kind) (hn : I64 v.n) (hs : v.s.size ≤ 1000000) : (putL v).length ≤ 30 + v.s.size := by
  have h1 := intL_len hk
  have h2 := intL_len hn
  have h3 := textL_len v.s hs
  unfold putL
  rw [List.length_append, List.length_append]
  omega
theorem putC_len (c : CmdD) (h : CmdW c) : (putC c).length ≤ 2000080 := by
  have h1 := intL_len h.kind
  have h2 := intL_len h.session
  have h3 := intL_len h.seq
  have h4 := intL_len h.version
  have h5 := textL_len c.field h.field
  have h6 := putL_most c.value h.vkind h.vn h.vs
  have h7 := h.field
  have h8 := h.vs
  unfold putC
  split
  · simp; omega
  · split
    · simp only [List.length_append]; omega
    · split
      · simp only [List.length_append]; omega
      · simp; omega
theorem putC_pos (c : CmdD) : 0 < (putC c).length := by
  have := Lib.uvarint_pos (Lib.zigzag c.kind)
  unfold putC intL
  rw [List.length_append]
  omega
theorem putR_most (r : ReplyD) (h : ReplyW r) : (putR r).length ≤ 1000080 := by
  have h1 := intL_len h.err
  have h2 := intL_len h.n
  have h6 := putL_most r.value h.vkind h.vn h.vs
  have h8 := h.vs
  unfold putR
  rw [List.length_append, List.length_append]
  omega
/-- What a command's bytes were put as is turned to a text. -/
theorem cv_str {w : World} {a : Option Addr} {n q : Nat} {l : List UInt8} (h : Reads w 1 (.slice a n q) n (u8s l)) (hn : n = l.length) : (convert 29 9 (.slice a n q)).run Tryd.prog w = .ok (.string (str l)) w := by
  subst hn
  exact run_convert_str w 29 9 5 _ _ Tryd.underlying29 Tryd.underlying5 Tryd.underlying9 h

end Go.Proofs.YtbbdmmhpbeleoaaDoor
