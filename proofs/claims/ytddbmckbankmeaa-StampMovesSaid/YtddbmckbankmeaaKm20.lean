/- Part 20 of the texts behind this claim. -/
import Derived.Test.YtddbmckbankmeaaKm10
import Derived.Test.YtddbmckbankmeaaKm19
set_option linter.unusedVariables false
namespace Go.Proofs.Ytddbmckbankmeaa
open Go.RowKit
theorem StampMoves_walk (x y : Int) (r : RMs) (w : World) (_ : (Lit.int .i64 x).wf = true) (_ : (Lit.int .i64 y).wf = true) (hl : r.at_ w) : Calls Try.prog 9 #[.int .i64 x, .int .i64 y, r.v] w fun e w' => e = .returned (.bool true) ∧ Below w.heap.size w w' := by
  obtain ⟨A, k, l⟩ := r
  obtain ⟨hr, hn⟩ := hl
  refine Calls.mono ?_ (show ∀ e w', Got w (isV (.bool true)).p e w' → _ from fun e w' ⟨v, he, hb, hv⟩ => ⟨by rw [he, show v = .bool true from hv], hb⟩)
  cases hs : sizeB x y
  · exact SMov_sz x y A k l w hr hn hs
  obtain ⟨Wn, Hn, rfl, rfl, hs'⟩ := size_nat hs
  by_cases h16 : l.length ≤ 16
  · cases hf : fitB Wn Hn l
    · exact SMov_bad Wn Hn A k l w hr hn hs' h16 hf
    exact SMov_ok Wn Hn A k l w hr hn hs' h16 hf
  exact SMov_big Wn Hn A k l w hr hn hs' (by omega)
end Go.Proofs.Ytddbmckbankmeaa
