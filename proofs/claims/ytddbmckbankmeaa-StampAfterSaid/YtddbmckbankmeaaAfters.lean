/- The law StampAfter, as its row asks. -/
import Derived.Test.YtddbmckbankmeaaRowS
import Derived.Test.YtddbmckbankmeaaTf
set_option linter.unusedVariables false
namespace Go.Proofs.Ytddbmckbankmeaa
open Go.RowKit
theorem StampAfter_walk (W H : Int) (m n : RMv) (w : World) (hW : (Lit.int .i64 W).wf = true) (hH : (Lit.int .i64 H).wf = true) (h1 h2 : True) : Calls Try.prog 4 #[.int .i64 W, .int .i64 H, m.v, n.v] w fun e w' => e = .returned (.bool true) ∧ Below w.heap.size w w' := by
  obtain ⟨x1, y1, t1, f1⟩ := m
  obtain ⟨x2, y2, t2, f2⟩ := n
  refine Calls.mono ?_ (show ∀ e w', Got w (isV (.bool true)).p e w' → _ from fun e w' ⟨v, he, hb, hv⟩ => ⟨by rw [he, show v = .bool true from hv], hb⟩)
  cases hs : sizeB W H
  · exact After_s W H ⟨x1, y1, t1, f1⟩ ⟨x2, y2, t2, f2⟩ hs w
  cases ha : alB W H x1 y1 t1
  · exact After_a W H ⟨x1, y1, t1, f1⟩ ⟨x2, y2, t2, f2⟩ hs ha w
  cases hb : alB W H x2 y2 t2
  · exact After_b W H ⟨x1, y1, t1, f1⟩ ⟨x2, y2, t2, f2⟩ hs ha hb w
  · exact After_y W H ⟨x1, y1, t1, f1⟩ ⟨x2, y2, t2, f2⟩ hs ha hb w
end Go.Proofs.Ytddbmckbankmeaa
