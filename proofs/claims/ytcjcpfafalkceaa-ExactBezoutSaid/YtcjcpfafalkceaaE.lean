/- Products of natural numbers of any length: the schoolbook and the halves together. -/
import Derived.Test.YtcjcpfafalkceaaD
set_option linter.unusedVariables false
namespace Go.Proofs.Ytcjcpfafalkceaa
open Go.RowKit
set_option maxRecDepth 100000 in
theorem mul_big (N : Nat) (H : MulOk N) (A1 : Option Addr) (c1 m : Nat) (A2 : Option Addr) (c2 n : Nat) (w : World) (h1 : NN w A1 c1 m) (h2 : NN w A2 c2 n) (l1 : ln m ≤ 268435456) (l2 : ln n ≤ 268435456) (hm : 40 ≤ ln m) (hn : 40 ≤ ln n) (hN : ln m + ln n ≤ N + 1) :
    Calls Try.prog 117 #[.slice A1 (ln m) c1, .slice A2 (ln n) c2] w (RetN (m * n) w) := by
  by_cases hlt : ln m < ln n
  · have c := split_calls N H A2 c2 n A1 c1 m w h2 h1 l2 (by omega) hm (by omega)
    rw [Nat.mul_comm n m] at c
    have HC := Hd.mk c
    clear c h1 h2
    go_enter Try.func117, Try.ntmps117
    go_wp2_with (first | (go_at_call 137; refine HC.out.mono ?_; rintro e w1 ⟨A, c, rfl, hN1, hB⟩; have HN := Hd.mk hN1; have HB := Hd.mk hB; clear hN1 hB))
    go_ret
    exact ⟨A, c, rfl, HN.out, HB.out⟩
  · have c := split_calls N H A1 c1 m A2 c2 n w h1 h2 l1 (by omega) hn (by omega)
    have HC := Hd.mk c
    clear c h1 h2
    go_enter Try.func117, Try.ntmps117
    go_wp2_with (first | (go_at_call 137; refine HC.out.mono ?_; rintro e w1 ⟨A, c, rfl, hN1, hB⟩; have HN := Hd.mk hN1; have HB := Hd.mk hB; clear hN1 hB))
    go_ret
    exact ⟨A, c, rfl, HN.out, HB.out⟩
theorem mul_ok : ∀ N, MulOk N := by
  intro N
  induction N with
  | zero =>
    intro A1 c1 m A2 c2 n w h1 h2 l1 l2 hN
    exact mul_school A1 c1 m A2 c2 n w h1 h2 (by omega) (by omega) (by omega)
  | succ N ih =>
    intro A1 c1 m A2 c2 n w h1 h2 l1 l2 hN
    by_cases hs : ln m < 40 ∨ ln n < 40
    · exact mul_school A1 c1 m A2 c2 n w h1 h2 (by omega) (by omega) hs
    · exact mul_big N ih A1 c1 m A2 c2 n w h1 h2 l1 l2 (by omega) (by omega) hN
/-- The product. -/
theorem mul_calls (A1 : Option Addr) (c1 m : Nat) (A2 : Option Addr) (c2 n : Nat) (w : World) (h1 : NN w A1 c1 m) (h2 : NN w A2 c2 n) (l1 : ln m ≤ 268435456) (l2 : ln n ≤ 268435456) :
    Calls Try.prog 117 #[.slice A1 (ln m) c1, .slice A2 (ln n) c2] w (RetN (m * n) w) := mul_ok _ A1 c1 m A2 c2 n w h1 h2 l1 l2 (Nat.le_refl _)
end Go.Proofs.Ytcjcpfafalkceaa
