/- Part 36 of the texts behind this claim. -/
import Derived.Test.YtcjcpfafalkceaaFq29
import Derived.Test.YtcjcpfafalkceaaFq35
set_option linter.unusedVariables false
namespace Go.Proofs.Ytcjcpfafalkceaa
open Go.RowKit
theorem ExactField_walk (f g : RQ) (w : World) (hf : f.at_ w) (hg : g.at_ w) : Calls Try.prog 11 #[f.v, g.v] w fun e w' => e = .returned (.bool true) ∧ Below w.heap.size w w' :=
  (Field_got f g f.v g.v w (RQ.isL hf) (RQ.isL hg)).mono fun e w' ⟨v, he, hb, hv⟩ => ⟨by rw [he, show v = .bool true from hv], hb⟩
end Go.Proofs.Ytcjcpfafalkceaa
