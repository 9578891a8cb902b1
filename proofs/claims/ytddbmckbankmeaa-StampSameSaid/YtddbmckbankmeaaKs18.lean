/- Part 18 of the texts behind this claim. -/
import Derived.Test.YtddbmckbankmeaaKs1
import Derived.Test.YtddbmckbankmeaaKs17
set_option linter.unusedVariables false
namespace Go.Proofs.Ytddbmckbankmeaa
open Go.RowKit
theorem StampSame_walk (s : RSt) (m : RMv) (b : Bool) (w : World) (hs : s.at_ w) (hm : True) : Calls Try.prog 8 #[s.v, m.v, .bool b] w fun e w' => e = .returned (.bool true) ∧ Below w.heap.size w w' := by
  obtain ⟨W, H, A, k, xs⟩ := s
  obtain ⟨x, y, t, f⟩ := m
  obtain ⟨hr, hl, hA⟩ := hs
  refine Calls.mono ?_ (show ∀ e w', Got w (isV (.bool true)).p e w' → _ from fun e w' ⟨v, he, hb, hv⟩ => ⟨by rw [he, show v = .bool true from hv], hb⟩)
  cases h : validB W H xs
  · exact Same_arg W H x y t f A k xs b w hr hl hA h
  · have hs := sizeB_bounds (valid_size h)
    by_cases h6 : 6 < W ∨ 6 < H
    · cases hm : alB W H x y t
      · exact Same_big2 W H x y t f A k xs b w hr hl hA h h6 hm
      · exact Same_big1 W H x y t f A k xs b w hr hl hA h h6 hm
    · obtain ⟨ad, rfl⟩ := valid_ad h hr
      cases hm : alB W H x y t
      · exact Same_fix W H x y t f ad k xs b (by omega) (by omega) w hr hl h hm
      · exact Same_ok W H x y t f ad k xs b (by omega) (by omega) w hr hl h hm
end Go.Proofs.Ytddbmckbankmeaa
