/- Division of naturals: all cases. -/
import Derived.Test.YtcjcpfafalkceaaY
set_option linter.unusedVariables false
namespace Go.Proofs.Ytcjcpfafalkceaa
open Go.RowKit
theorem ln_one_dig {b : Nat} (h : ln b = 1) : (dig b).getD 0 0 = b ∧ b < 4294967296 := by
  have hb : b ≠ 0 := fun e => by rw [e, ln_zero] at h; omega
  have h1 := lt_pow_ln b
  rw [h, Nat.pow_one] at h1
  refine ⟨?_, h1⟩
  rw [dig_getD, Nat.pow_zero, Nat.div_one]
  exact Nat.mod_eq_of_lt h1
set_option maxHeartbeats 1000000 in
set_option maxRecDepth 100000 in
theorem div_calls (A1 : Option Addr) (c1 a : Nat) (A2 : Option Addr) (c2 b : Nat) (w : World) (h1 : NN w A1 c1 a) (h2 : NN w A2 c2 b) (hb0 : b ≠ 0) (l1 : ln a ≤ 268435456) :
    Calls Try.prog 93 #[.slice A1 (ln a) c1, .slice A2 (ln b) c2] w (RetNN (a / b) (a % b) w) := by
  by_cases hlt : a < b
  · have hq : a / b = 0 := Nat.div_eq_of_lt hlt
    have hr : a % b = a := Nat.mod_eq_of_lt hlt
    rw [hq, hr]
    have hv : cmpv a b = -1 := by unfold cmpv; rw [if_pos hlt]
    have hc := cmp_calls A1 c1 a A2 c2 b w h1 h2
    rw [hv] at hc
    have HCMP := Hd.mk hc
    have H1 := Hd.mk h1
    clear h1 h2 hlt hb0 hq hr hv hc
    go_enter Try.func93, Try.ntmps93
    go_wp2_with fail
    refine HCMP.out.mono ?_
    rintro e w1 ⟨rfl, q0, rfl⟩
    go_wp2_with fail
    go_ret2
    exact ⟨none, 0, A1, c1, by rw [ln_zero]; rfl, NN.nil _ _ _ (by omega), H1.out.to (by repeat (first | exact Below.refl _ _ | refine below_alloc ?_ _ | refine below_drewN ?_ _)), by repeat (first | exact Below.refl _ _ | refine below_alloc ?_ _ | refine below_drewN ?_ _)⟩
  · by_cases hl : 2 ≤ ln b
    · exact div_long A1 c1 a A2 c2 b w h1 h2 (by omega) hl l1
    · have hl1 : ln b = 1 := by
        have : ln b ≠ 0 := fun h => hb0 (ln_eq_zero.1 h)
        omega
      obtain ⟨hbd, hbl⟩ := ln_one_dig hl1
      obtain ⟨ad, rfl, hcell⟩ := h2.at_ (k := 0) (by omega)
      rw [hbd, Addr.add_zero'] at hcell
      have hcp : 0 ≤ cmpv a b := by
        unfold cmpv
        rw [if_neg hlt]
        split <;> omega
      have hc := cmp_calls A1 c1 a (some ad) c2 b w h1 h2
      obtain ⟨cv, hcv⟩ : ∃ cv, cv = cmpv a b := ⟨_, rfl⟩
      rw [← hcv] at hc hcp
      rw [hl1] at hc ⊢
      have HCMP := Hd.mk hc
      have HSH := Hd.mk (fun W (hW : Below w.heap.size w W) => short_calls A1 c1 a b W (h1.to hW) (by omega) (by omega) hbl)
      clear h1 h2 hlt hb0 hcv hc hl hl1 hbd
      go_enter Try.func93, Try.ntmps93
      go_wp2_with fail
      refine HCMP.out.mono ?_
      rintro e w1 ⟨rfl, q0, rfl⟩
      go_wp2_with fail
      refine (HSH.out _ (by repeat (first | exact Below.refl _ _ | refine below_alloc ?_ _ | refine below_drewN ?_ _))).mono ?_
      rintro e wz ⟨A8, c8, A9, c9, rfl, hn8, hn9, hb9⟩
      have HN8 := Hd.mk hn8
      have HN9 := Hd.mk hn9
      have HB9 := Hd.mk hb9
      clear hn8 hn9 hb9
      go_wp2_with fail
      go_ret2
      exact ⟨A8, c8, A9, c9, rfl, HN8.out, HN9.out, bel_then (by repeat (first | exact Below.refl _ _ | refine below_alloc ?_ _ | refine below_drewN ?_ _)) HB9.out⟩
end Go.Proofs.Ytcjcpfafalkceaa
