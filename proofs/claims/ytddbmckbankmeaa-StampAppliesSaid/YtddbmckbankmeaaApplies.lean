/- The law StampApplies, as its row asks. -/
import Derived.Test.YtddbmckbankmeaaRowS
import Derived.Test.YtddbmckbankmeaaSx
set_option linter.unusedVariables false
namespace Go.Proofs.Ytddbmckbankmeaa
open Go.RowKit
theorem StampApplies_walk (s : RSt) (m : RMv) (w : World) (hs : s.at_ w) (hm : True) : Calls Try.prog 3 #[s.v, m.v] w fun e w' => e = .returned (.bool true) ∧ Below w.heap.size w w' := by
  obtain ⟨W, H, A, k, xs⟩ := s
  obtain ⟨x, y, t, f⟩ := m
  obtain ⟨hr, hl, hA⟩ := hs
  refine Calls.mono ?_ (show ∀ e w', Got w (isV (.bool true)).p e w' → _ from fun e w' ⟨v, he, hb, hv⟩ => ⟨by rw [he, show v = .bool true from hv], hb⟩)
  cases h : validB W H xs && alB W H x y t
  · exact Applies_no W H x y t f A k xs w hr hl hA h
  · rw [Bool.and_eq_true] at h
    exact Applies_yes W H x y t f A k xs w hr hl hA h.1 h.2
end Go.Proofs.Ytddbmckbankmeaa
