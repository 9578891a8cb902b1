/- The reference's natural numbers: trim, order. -/
import Derived.Test.YtcjcpfafalkceaaA
set_option linter.unusedVariables false
namespace Go.Proofs.Ytcjcpfafalkceaa
open Go.RowKit
theorem trim_calls (A : Option Addr) (c : Nat) (xs : List Nat) (w : World) (hr : RN w A xs) (hd : Dg xs) (hc : xs.length ≤ c) (hm : c ≤ 9223372036854775807) :
    Calls Try.prog 123 #[.slice A xs.length c] w fun e w' => e = .returned (.slice A (ln (val xs)) c) ∧ w = w' := by
  have HR := Hd.mk hr
  have HD := Hd.mk hd
  clear hr hd
  go_enter Try.func123, Try.ntmps123
  go_wp2
  go_loop [0] (fun v => ∃ k : Nat, k ≤ xs.length ∧ v = .slice A k c ∧ val (xs.take k) = val xs) (fun v => match v with | .slice _ n _ => n | _ => 0)
  case atStart => exact ⟨xs.length, Nat.le_refl _, rfl, by rw [List.take_length]⟩
  case round =>
    obtain ⟨k, hk, rfl, hv⟩ := hrel
    have HV := Hd.mk hv
    clear hv
    by_cases hk0 : 0 < k
    · obtain ⟨ad, rfl, hcell⟩ := RN.at_ HR.out (k := k - 1) (by omega)
      by_cases hz : xs.getD (k - 1) 0 = 0
      · rw [hz] at hcell
        have HZ := Hd.mk hz
        clear hz
        go_wp2
        go_round
        case rel =>
          refine ⟨k - 1, by omega, rfl, ?_⟩
          rw [← HV.out]
          have := val_take_succ (xs := xs) (k := k - 1) (by omega)
          rw [show k - 1 + 1 = k from by omega, HZ.out] at this
          rw [this]; simp
        case measure => show k - 1 < k; omega
      · have hne : (((xs.getD (k - 1) 0 : Nat) : Int) == 0) = false := by rw [beq_eq_false_iff_ne]; omega
        have HZ := Hd.mk hz
        clear hz
        generalize hx : ((xs.getD (k - 1) 0 : Nat) : Int) = x at hcell hne
        clear hx
        go_wp2
        go_ret
        refine ⟨?_, rfl⟩
        have := dig_take HD.out hk HV.out (fun j hj => by rw [show j = k - 1 from by omega]; exact HZ.out)
        unfold ln
        rw [this, List.length_take, Nat.min_eq_left hk]
        rfl
    · have : k = 0 := by omega
      subst this
      go_wp2
      go_ret
      refine ⟨?_, rfl⟩
      have := HV.out
      rw [← this]
      simp [val, ln_zero]
theorem order_calls (A1 : Option Addr) (c1 m : Nat) (A2 : Option Addr) (c2 n : Nat) (w : World) (h1 : NN w A1 c1 m) (h2 : NN w A2 c2 n) :
    Calls Try.prog 65 #[.slice A1 (ln m) c1, .slice A2 (ln n) c2] w fun e w' => e = .returned (.int .i64 (cmpv m n)) ∧ ∃ q, w' = w.drewN q := by
  have H1 := Hd.mk h1
  have H2 := Hd.mk h2
  have hc1 : ln m ≤ 9223372036854775807 := Nat.le_trans h1.2.1 h1.2.2
  have hc2 : ln n ≤ 9223372036854775807 := Nat.le_trans h2.2.1 h2.2.2
  clear h1 h2
  by_cases hlt : ln m < ln n
  · have hv : cmpv m n = -1 := by
      unfold cmpv
      rw [if_pos]
      rcases Nat.lt_or_ge m n with h | h
      · exact h
      · have := ln_mono h; omega
    rw [hv]
    clear hv
    have hne : ((ln m : Int) != (ln n : Int)) = true := by rw [bne_iff_ne]; omega
    go_enter Try.func65, Try.ntmps65
    go_wp2
    go_ret
    exact ⟨rfl, 0, rfl⟩
  · by_cases hgt : ln n < ln m
    · have hv : cmpv m n = 1 := by
        have hnm : n < m := by
          rcases Nat.lt_or_ge n m with h | h
          · exact h
          · have := ln_mono h; omega
        unfold cmpv
        rw [if_neg (by omega), if_neg (by omega)]
      rw [hv]
      clear hv
      have hne : ((ln m : Int) != (ln n : Int)) = true := by rw [bne_iff_ne]; omega
      go_enter Try.func65, Try.ntmps65
      go_wp2
      go_ret
      exact ⟨rfl, 0, rfl⟩
    · have hl : ln m = ln n := by omega
      have HL := Hd.mk hl
      have hne : ((ln m : Int) != (ln n : Int)) = false := by rw [bne_eq_false_iff_eq]; omega
      clear hl
      go_enter Try.func65, Try.ntmps65
      go_wp2
      go_loopw [5] (fun s wr => ∃ k : Nat, k ≤ ln m ∧ s = .int .i64 ((k : Int) - 1) ∧ (dig m).drop k = (dig n).drop k ∧ ∃ q, wr = w.drewN q) (fun s _ => (intOf s + 1).toNat)
      case atStart => exact ⟨ln m, Nat.le_refl _, rfl, by rw [List.drop_eq_nil_of_le (show (dig m).length ≤ ln m from Nat.le_refl _), List.drop_eq_nil_of_le (show (dig n).length ≤ ln m from by have := HL.out; unfold ln at this ⊢; omega)], 0, rfl⟩
      case round =>
        obtain ⟨k, hk, rfl, hd, q, rfl⟩ := hrel
        have HDR := Hd.mk hd
        clear hd
        rcases k with _ | k
        · go_wp2
          go_ret
          refine ⟨?_, q, rfl⟩
          have he : m = n := dig_inj (by simpa using HDR.out)
          subst he
          exact ret_int (by unfold cmpv; simp)
        · obtain ⟨a1, rfl, hcell1⟩ := H1.out.at_ (k := k) (by omega)
          obtain ⟨a2, rfl, hcell2⟩ := H2.out.at_ (k := k) (by have := HL.out; omega)
          obtain ⟨x, hx⟩ : ∃ x, x = (dig m).getD k 0 := ⟨_, rfl⟩
          obtain ⟨y, hy⟩ : ∃ y, y = (dig n).getD k 0 := ⟨_, rfl⟩
          rw [← hx] at hcell1
          rw [← hy] at hcell2
          have HX := Hd.mk hx
          have HY := Hd.mk hy
          clear hx hy
          have e1 : ((k + 1 : Nat) : Int) - 1 = (k : Int) := by omega
          rw [e1]
          by_cases hxy : x = y
          · have hn1 : ((x : Int) != (y : Int)) = false := by rw [bne_eq_false_iff_eq]; omega
            have HXY := Hd.mk hxy
            clear hxy
            go_wp2_with fail
            go_quiet (fail)
            go_wp2_with fail
            go_roundw
            case rel => exact ⟨k, by omega, rfl, drop_pred (by omega) (by have := HL.out; omega) HDR.out (by rw [← HX.out, ← HY.out, HXY.out]), _, rfl⟩
            case measure => simp [intOf]
          · have hn1 : ((x : Int) != (y : Int)) = true := by rw [bne_iff_ne]; omega
            rcases Nat.lt_or_ge x y with hlt2 | hge2
            · have hv : cmpv m n = -1 := by unfold cmpv; rw [if_pos (lt_of_digit (by omega) (by have := HL.out; omega) HDR.out (by rw [← HX.out, ← HY.out]; exact hlt2))]
              have HV := Hd.mk hv
              clear hv hxy
              go_wp2_with fail
              go_quiet (fail)
              go_wp2_with fail
              go_quiet (fail)
              go_wp2_with fail
              go_ret
              exact ⟨by rw [HV.out]; rfl, _, by rw [World.drewN_drewN, World.drewN_drewN]⟩
            · have hnm := lt_of_digit (m := n) (n := m) (k := k) (by have := HL.out; omega) (by omega) HDR.out.symm (by rw [← HX.out, ← HY.out]; omega)
              have hv : cmpv m n = 1 := by unfold cmpv; rw [if_neg (by omega), if_neg (by omega)]
              have HV := Hd.mk hv
              clear hv hnm
              have hge3 : ¬ (x : Int) < (y : Int) := by omega
              clear hxy
              go_wp2_with fail
              go_quiet (fail)
              go_wp2_with fail
              go_quiet (fail)
              go_wp2_with fail
              go_ret
              exact ⟨by rw [HV.out]; rfl, _, by rw [World.drewN_drewN, World.drewN_drewN]⟩
end Go.Proofs.Ytcjcpfafalkceaa
