/- The law StampGroups, as its row asks. -/
import Derived.Test.YtddbmckbankmeaaRowS
import Derived.Test.YtddbmckbankmeaaTb
set_option linter.unusedVariables false
namespace Go.Proofs.Ytddbmckbankmeaa
open Go.RowKit
theorem StampGroups_walk (s : RSt) (m1 m2 m3 : RMv) (w : World) (hs : s.at_ w) (h1 h2 h3 : True) : Calls Try.prog 5 #[s.v, m1.v, m2.v, m3.v] w fun e w' => e = .returned (.bool true) ∧ Below w.heap.size w w' := by
  obtain ⟨W, H, A, k, xs⟩ := s
  obtain ⟨x1, y1, t1, f1⟩ := m1
  obtain ⟨x2, y2, t2, f2⟩ := m2
  obtain ⟨x3, y3, t3, f3⟩ := m3
  obtain ⟨hr, hl, hA⟩ := hs
  refine Calls.mono ?_ (show ∀ e w', Got w (isV (.bool true)).p e w' → _ from fun e w' ⟨v, he, hb, hv⟩ => ⟨by rw [he, show v = .bool true from hv], hb⟩)
  cases hv : validB W H xs
  · exact Groups_v W H ⟨x1, y1, t1, f1⟩ ⟨x2, y2, t2, f2⟩ ⟨x3, y3, t3, f3⟩ A k xs w hr hl hA hv
  cases ha : alB W H x1 y1 t1
  · exact Groups_a W H ⟨x1, y1, t1, f1⟩ ⟨x2, y2, t2, f2⟩ ⟨x3, y3, t3, f3⟩ A k xs w hr hl hA hv ha
  cases hb : alB W H x2 y2 t2
  · exact Groups_b W H ⟨x1, y1, t1, f1⟩ ⟨x2, y2, t2, f2⟩ ⟨x3, y3, t3, f3⟩ A k xs w hr hl hA hv ha hb
  cases hc : alB W H x3 y3 t3
  · exact Groups_c W H ⟨x1, y1, t1, f1⟩ ⟨x2, y2, t2, f2⟩ ⟨x3, y3, t3, f3⟩ A k xs w hr hl hA hv ha hb hc
  · exact Groups_yes W H ⟨x1, y1, t1, f1⟩ ⟨x2, y2, t2, f2⟩ ⟨x3, y3, t3, f3⟩ A k xs w hr hl hA hv ha hb hc
end Go.Proofs.Ytddbmckbankmeaa
