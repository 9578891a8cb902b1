/- The law StampCells, as its row asks. -/
import Derived.Test.YtddbmckbankmeaaRowM
import Derived.Test.YtddbmckbankmeaaUj
set_option linter.unusedVariables false
namespace Go.Proofs.Ytddbmckbankmeaa
open Go.RowKit
theorem StampCells_walk (W H : Int) (l : RMs) (w : World) (hW : (Lit.int .i64 W).wf = true) (hH : (Lit.int .i64 H).wf = true) (hl : l.at_ w) : Calls Try.prog 6 #[.int .i64 W, .int .i64 H, l.v] w fun e w' => e = .returned (.bool true) ∧ Below w.heap.size w w' := by
  obtain ⟨A, k, ms⟩ := l
  obtain ⟨hr, hn⟩ := hl
  refine Calls.mono ?_ (show ∀ e w', Got w (isV (.bool true)).p e w' → _ from fun e w' ⟨v, he, hb, hv⟩ => ⟨by rw [he, show v = .bool true from hv], hb⟩)
  cases hs : sizeB W H
  · exact SCells_a W H A k ms w hr hn hs
  have hb := sizeB_bounds hs
  obtain ⟨Wn, rfl⟩ : ∃ n : Nat, W = n := ⟨W.toNat, by omega⟩
  obtain ⟨Hn, rfl⟩ : ∃ n : Nat, H = n := ⟨H.toNat, by omega⟩
  cases hg : rGB Wn Hn ms
  · exact SCells_b Wn Hn A k ms w hr hn hs hg
  · exact SCells_y Wn Hn A k ms w hr hn hs hg
end Go.Proofs.Ytddbmckbankmeaa
