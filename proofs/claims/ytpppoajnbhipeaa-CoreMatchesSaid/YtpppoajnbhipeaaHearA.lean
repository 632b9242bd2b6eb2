/- Hear, but for the entries that a leader sends. -/
import Derived.Test.YtpppoajnbhipeaaCoreV
import Derived.Test.YtpppoajnbhipeaaAppC
import Derived.Test.YtpppoajnbhipeaaTakesB
namespace Go.Proofs.Ytpppoajnbhipeaa
open Go Go.RowKit

theorem voted_any (w : World) (B n : Nat) (c : CoreD) (lv sv : Value) (m : MsgD) (ea da : Option Addr) (ec dc : Nat) (h : CoreAt w B n c lv sv) (hf : 1 ≤ m.frm ∧ m.frm ≤ 7) (hll : lastD c + 1 ≤ 2199023255552) :
    Calls Try.prog 55 #[.pointer (some ⟨n, 0, none⟩), msgV m (.slice ea m.entries.length ec) (.slice da m.data.length dc)] w (CallPost B n lv (votedD c m) w) := by
  by_cases hn : m.term ≠ c.term ∨ c.role ≠ 1 ∨ m.ok = false
  · exact voted_no w B n c lv sv m ea da ec dc h hn
  · exact voted_yes w B n c lv sv m ea da ec dc h (Classical.byContradiction fun h => hn (.inl h)) (Classical.byContradiction fun h => hn (.inr (.inl h))) (by rcases e : m.ok with _ | _; exact absurd (Or.inr (Or.inr e)) hn; rfl) hf hll
theorem stepD_last (c : CoreD) (m : MsgD) : lastD (stepD c m) = lastD c := by unfold stepD; split <;> rfl

/-- Any message but entries: entries by what append does with them. -/
theorem hear_but (w : World) (B n : Nat) (c : CoreD) (lv sv : Value) (m : MsgD) (ea da : Option Addr) (ec dc : Nat) (h : CoreAt w B n c lv sv) (hl : ListAt entL w (Off n lv) (.slice ea m.entries.length ec) m.entries) (hd : BytesAt w (Off n lv) (.slice da m.data.length dc) m.data)
    (hdl : m.data.length ≤ 1000000) (hll : lastD c + 1 ≤ 2199023255552) (H3 : wrongD c m = false → m.kind = 3 → (stepD c m).term ≤ m.term → (stepD c m).role ≠ 2 → HearC 59 appendD B n (followD (stepD c m) m) lv sv m ea da ec dc) :
    Calls Try.prog 22 #[.pointer (some ⟨n, 0, none⟩), msgV m (.slice ea m.entries.length ec) (.slice da m.data.length dc)] w (CallPost B n lv (hearD c m) w) := by
  rcases hw : wrongD c m with _ | _
  rotate_left 1
  · exact hear_wrong w B n c lv sv m ea da ec dc h hl hw
  have hz := hw
  unfold wrongD at hz
  simp only [Bool.or_eq_false_iff] at hz
  obtain ⟨⟨k1, k5⟩, hto, ⟨f1, fn⟩, hfi, ⟨t1, t2⟩, ⟨a0, a1⟩, ⟨b0, b1⟩, ⟨c0, c1⟩, hen⟩ := wrongHead_no hz.1
  have hnn := ((ConfD.may_iff c.conf).1 h.ok.may).1
  have hf : 1 ≤ m.frm ∧ m.frm ≤ 7 := by omega
  by_cases e1 : m.kind = 1
  · exact hear_1 w B n c _ lv sv m ea da ec dc h hl hd hw rfl e1
  by_cases e2 : m.kind = 2
  · exact hear_2 w B n c _ lv sv m ea da ec dc h hl hd hw rfl e2 (fun w1 h1 _ _ => voted_any w1 B n _ lv sv m ea da ec dc h1 hf (by rw [stepD_last]; exact hll))
  by_cases e4 : m.kind = 4
  · exact hear_4 w B n c _ lv sv m ea da ec dc h hl hd hw rfl e4 (fun w1 h1 _ _ => appended_any w1 B n _ lv sv m ea da ec dc h1 hf ⟨a0, a1⟩)
  by_cases e3 : m.kind = 3
  · by_cases ht : m.term < (stepD c m).term
    · exact hear_3A w B n c _ lv sv m ea da ec dc h hl hd hw rfl e3 ht
    · by_cases hr : (stepD c m).role = 2
      · exact hear_3B w B n c _ lv sv m ea da ec dc h hl hd hw rfl e3 (by omega) hr
      · exact hear_3C w B n c _ lv sv m ea da ec dc h hl hd hw rfl e3 (by omega) hr (H3 hw e3 (by omega) hr)
  have e5 : m.kind = 5 := by omega
  by_cases ht : m.term < (stepD c m).term
  · exact hear_5A w B n c _ lv sv m ea da ec dc h hl hd hw rfl e5 ht
  · by_cases hr : (stepD c m).role = 2
    · exact hear_5B w B n c _ lv sv m ea da ec dc h hl hd hw rfl e5 (by omega) hr
    · rcases hi : inD m.a 1 549755813888 with _ | _
      · exact hear_5D w B n c _ lv sv m ea da ec dc h hl hd hw rfl e5 (by omega) hr hi
      · rcases hj : inD m.b 1 m.term with _ | _
        · exact hear_5E w B n c _ lv sv m ea da ec dc h hl hd hw rfl e5 (by omega) hr hi hj
        · exact hear_5F w B n c _ lv sv m ea da ec dc h hl hd hw rfl e5 (by omega) hr hi hj (fun w1 h1 _ hd1 => takes_any w1 B n _ lv sv m ea da ec dc h1 hd1 hdl a1 ⟨b0, b1⟩)

end Go.Proofs.Ytpppoajnbhipeaa
