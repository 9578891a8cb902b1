/- Valid Ints and whole numbers. -/
import Derived.Test.YtcjcpfafalkceaaJ
set_option linter.unusedVariables false
namespace Go.Proofs.Ytcjcpfafalkceaa
open Go.RowKit
/-- The whole number that an Int says. -/
def Raw.val (r : Raw) : Int := if r.neg = true then -((Go.Proofs.Ytcjcpfafalkceaa.val r.xs : Nat) : Int) else ((Go.Proofs.Ytcjcpfafalkceaa.val r.xs : Nat) : Int)
/-- The value of an Int as it came in. -/
def Raw.v (r : Raw) : Value := .agg #[.bool r.neg, .slice r.A r.xs.length r.c]
theorem Raw.natAbs (r : Raw) : r.val.natAbs = Go.Proofs.Ytcjcpfafalkceaa.val r.xs := by
  unfold Raw.val
  split <;> omega
theorem Raw.ok_dig {r : Raw} (h : r.ok = true) (hd : Dg r.xs) : dig r.val.natAbs = r.xs := by
  rw [Raw.natAbs]
  refine dig_val hd fun k hk => ?_
  unfold Raw.ok at h
  simp only [Bool.and_eq_true, decide_eq_true_eq, Bool.not_eq_true', Bool.and_eq_false_iff, decide_eq_false_iff_not] at h
  rw [show r.xs.length - 1 = k from by omega] at h
  rcases h.2 with h2 | h2
  · omega
  · exact h2
theorem Raw.ok_neg {r : Raw} (h : r.ok = true) (hd : Dg r.xs) : r.neg = decide (r.val < 0) := by
  have e := Raw.ok_dig h hd
  unfold Raw.ok at h
  simp only [Bool.and_eq_true, decide_eq_true_eq, Bool.not_eq_true', Bool.and_eq_false_iff, decide_eq_false_iff_not] at h
  rcases hn : r.neg with _ | _
  · symm
    apply decide_eq_false
    unfold Raw.val
    rw [hn]
    simp
  · symm
    apply decide_eq_true
    have h0 : r.xs.length ≠ 0 := by
      rcases h.1.2 with h1 | h1
      · exact h1
      · rw [hn] at h1; cases h1
    have hv : Go.Proofs.Ytcjcpfafalkceaa.val r.xs ≠ 0 := fun hz => h0 (by rw [← e, Raw.natAbs, hz, dig_zero]; rfl)
    unfold Raw.val
    rw [if_pos hn]
    omega
end Go.Proofs.Ytcjcpfafalkceaa
