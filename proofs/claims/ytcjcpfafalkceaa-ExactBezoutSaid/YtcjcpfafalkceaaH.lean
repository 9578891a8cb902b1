/- Whole numbers: products, and what fits. -/
import Derived.Test.YtcjcpfafalkceaaG
set_option linter.unusedVariables false
namespace Go.Proofs.Ytcjcpfafalkceaa
open Go.RowKit
set_option maxHeartbeats 1000000 in
set_option maxRecDepth 100000 in
theorem wmul_calls (x y : Int) (A1 : Option Addr) (c1 : Nat) (A2 : Option Addr) (c2 : Nat) (w : World) (h1 : NN w A1 c1 x.natAbs) (h2 : NN w A2 c2 y.natAbs) (l1 : ln x.natAbs ≤ 268435456) (l2 : ln y.natAbs ≤ 268435456) :
    Calls Try.prog 67 #[.agg #[.bool (decide (x < 0)), .slice A1 (ln x.natAbs) c1], .agg #[.bool (decide (y < 0)), .slice A2 (ln y.natAbs) c2]] w (RetZ (x * y) w) := by
  have H1 := Hd.mk h1
  have H2 := Hd.mk h2
  clear h1 h2
  have HZ := Hd.mk (Int.natAbs_mul x y)
  obtain ⟨b1, hb1⟩ : ∃ b, b = decide (x < 0) := ⟨_, rfl⟩
  obtain ⟨b2, hb2⟩ : ∃ b, b = decide (y < 0) := ⟨_, rfl⟩
  rw [← hb1, ← hb2]
  by_cases h0 : x * y = 0
  · have HS : Hd (decide (x * y < 0) = false) := ⟨decide_eq_false (by omega)⟩
    have hd0 : decide (ln (x.natAbs * y.natAbs) = 0) = true := decide_eq_true (ln_eq_zero.2 (by rw [← HZ.out, h0]; rfl))
    clear hb1 hb2 h0
    rcases b1 with _ | _ <;> rcases b2 with _ | _
    all_goals
      go_enter Try.func67, Try.ntmps67
      go_wp2_with (first | (go_at_call 117; refine (mul_calls _ _ _ _ _ _ _ (H1.out.to (by repeat (first | exact HB.out | exact Below.refl _ _ | refine below_alloc ?_ _ | refine below_drewN ?_ _ | refine below_drew ?_ | refine below_set ?_ (by first | exact Nat.le_refl _ | omega | (simp; done) | (simp; omega)) _))) (H2.out.to (by repeat (first | exact HB.out | exact Below.refl _ _ | refine below_alloc ?_ _ | refine below_drewN ?_ _ | refine below_drew ?_ | refine below_set ?_ (by first | exact Nat.le_refl _ | omega | (simp; done) | (simp; omega)) _))) l1 l2).mono ?_; rintro e w1 ⟨A3, c3, rfl, hn1, hb1⟩; obtain ⟨hc1, hf1⟩ := bcell hb1; have hl3 := Nat.le_trans hn1.2.1 hn1.2.2; have HN1 := Hd.mk hn1; have HB : Hd (Below w.heap.size w w1) := ⟨bel_then (by repeat (first | exact HB.out | exact Below.refl _ _ | refine below_alloc ?_ _ | refine below_drewN ?_ _ | refine below_drew ?_ | refine below_set ?_ (by first | exact Nat.le_refl _ | omega | (simp; done) | (simp; omega)) _)) hb1⟩; have hz1 : w.heap.size + 1 + 1 < w1.heap.size := (by have := hb1.size; simp at this; omega); clear hn1 hb1) | (go_at_call 89; refine (zero_eq true _ _ _ _ hl3 hd0).mono ?_; rintro e w' ⟨rfl, rfl⟩))
      have g0 : w1.cell? ⟨w.heap.size + 1 + 1, 0, none⟩ = some (.bool false) := (hc1 _ _ (by simp)).trans ((blk_third w _ _ [.bool false, .slice none 0 0] 70).cell 0)
      have g1 : w1.cell? ⟨w.heap.size + 1 + 1, 1, none⟩ = some (.slice none 0 0) := (hc1 _ _ (by simp)).trans ((blk_third w _ _ [.bool false, .slice none 0 0] 70).cell 1)
      obtain ⟨k0, k1, k2⟩ := two_set g0 g1 (.bool false) (.slice A3 (ln (x.natAbs * y.natAbs)) c3)
      refine bodyPost_ret (v := .agg #[.bool false, .slice A3 (ln (x.natAbs * y.natAbs)) c3]) (by simp [results, Try.results67, go_sem, k0, k1]) rfl ?_
      refine ⟨A3, c3, by first | (rw [HZ.out, HS.out]; done) | (rw [HZ.out, HS.out]; rfl), ?_, by repeat (first | exact HB.out | exact Below.refl _ _ | refine below_alloc ?_ _ | refine below_drewN ?_ _ | refine below_drew ?_ | refine below_set ?_ (by first | exact Nat.le_refl _ | omega | (simp; done) | (simp; omega)) _)⟩
      rw [HZ.out]
      exact (HN1.out.set_ g0 (by intro t; simp) _).set_ k2 (by intro t; simp) _
  · have hd0 : decide (ln (x.natAbs * y.natAbs) = 0) = false := decide_eq_false (fun h => h0 (by have := ln_eq_zero.1 h; rw [← HZ.out] at this; omega))
    have hx0 : x ≠ 0 := fun h => h0 (by rw [h]; simp)
    have hy0 : y ≠ 0 := fun h => h0 (by rw [h]; simp)
    have hS : decide (x * y < 0) = (b1 != b2) := by
      rw [hb1, hb2]
      rcases Int.lt_or_gt_of_ne hx0 with hx | hx <;> rcases Int.lt_or_gt_of_ne hy0 with hy | hy
      · have := Int.mul_pos_of_neg_of_neg hx hy
        simp [hx, hy]; omega
      · have := Int.mul_neg_of_neg_of_pos hx hy
        have hy' : ¬ y < 0 := by omega
        simp [hx, hy', this]
      · have := Int.mul_neg_of_pos_of_neg hx hy
        have hx' : ¬ x < 0 := by omega
        simp [hx', hy, this]
      · have := Int.mul_pos hx hy
        have hx' : ¬ x < 0 := by omega
        have hy' : ¬ y < 0 := by omega
        simp [hx', hy']; omega
    have HS := Hd.mk hS
    clear hb1 hb2 h0 hx0 hy0 hS
    rcases b1 with _ | _ <;> rcases b2 with _ | _
    · go_enter Try.func67, Try.ntmps67
      go_wp2_with (first | (go_at_call 117; refine (mul_calls _ _ _ _ _ _ _ (H1.out.to (by repeat (first | exact HB.out | exact Below.refl _ _ | refine below_alloc ?_ _ | refine below_drewN ?_ _ | refine below_drew ?_ | refine below_set ?_ (by first | exact Nat.le_refl _ | omega | (simp; done) | (simp; omega)) _))) (H2.out.to (by repeat (first | exact HB.out | exact Below.refl _ _ | refine below_alloc ?_ _ | refine below_drewN ?_ _ | refine below_drew ?_ | refine below_set ?_ (by first | exact Nat.le_refl _ | omega | (simp; done) | (simp; omega)) _))) l1 l2).mono ?_; rintro e w1 ⟨A3, c3, rfl, hn1, hb1⟩; obtain ⟨hc1, hf1⟩ := bcell hb1; have hl3 := Nat.le_trans hn1.2.1 hn1.2.2; have HN1 := Hd.mk hn1; have HB : Hd (Below w.heap.size w w1) := ⟨bel_then (by repeat (first | exact HB.out | exact Below.refl _ _ | refine below_alloc ?_ _ | refine below_drewN ?_ _ | refine below_drew ?_ | refine below_set ?_ (by first | exact Nat.le_refl _ | omega | (simp; done) | (simp; omega)) _)) hb1⟩; have hz1 : w.heap.size + 1 + 1 < w1.heap.size := (by have := hb1.size; simp at this; omega); clear hn1 hb1) | (go_at_call 89; refine (zero_eq false _ _ _ _ hl3 hd0).mono ?_; rintro e w' ⟨rfl, rfl⟩))
      have g0 : w1.cell? ⟨w.heap.size + 1 + 1, 0, none⟩ = some (.bool false) := (hc1 _ _ (by simp)).trans ((blk_third w _ _ [.bool false, .slice none 0 0] 70).cell 0)
      have g1 : w1.cell? ⟨w.heap.size + 1 + 1, 1, none⟩ = some (.slice none 0 0) := (hc1 _ _ (by simp)).trans ((blk_third w _ _ [.bool false, .slice none 0 0] 70).cell 1)
      obtain ⟨k0, k1, k2⟩ := two_set g0 g1 (.bool false) (.slice A3 (ln (x.natAbs * y.natAbs)) c3)
      refine bodyPost_ret (v := .agg #[.bool false, .slice A3 (ln (x.natAbs * y.natAbs)) c3]) (by simp [results, Try.results67, go_sem, k0, k1]) rfl ?_
      refine ⟨A3, c3, by first | (rw [HZ.out, HS.out]; done) | (rw [HZ.out, HS.out]; rfl), ?_, by repeat (first | exact HB.out | exact Below.refl _ _ | refine below_alloc ?_ _ | refine below_drewN ?_ _ | refine below_drew ?_ | refine below_set ?_ (by first | exact Nat.le_refl _ | omega | (simp; done) | (simp; omega)) _)⟩
      rw [HZ.out]
      exact (HN1.out.set_ g0 (by intro t; simp) _).set_ k2 (by intro t; simp) _
    · go_enter Try.func67, Try.ntmps67
      go_wp2_with (first | (go_at_call 117; refine (mul_calls _ _ _ _ _ _ _ (H1.out.to (by repeat (first | exact HB.out | exact Below.refl _ _ | refine below_alloc ?_ _ | refine below_drewN ?_ _ | refine below_drew ?_ | refine below_set ?_ (by first | exact Nat.le_refl _ | omega | (simp; done) | (simp; omega)) _))) (H2.out.to (by repeat (first | exact HB.out | exact Below.refl _ _ | refine below_alloc ?_ _ | refine below_drewN ?_ _ | refine below_drew ?_ | refine below_set ?_ (by first | exact Nat.le_refl _ | omega | (simp; done) | (simp; omega)) _))) l1 l2).mono ?_; rintro e w1 ⟨A3, c3, rfl, hn1, hb1⟩; obtain ⟨hc1, hf1⟩ := bcell hb1; have hl3 := Nat.le_trans hn1.2.1 hn1.2.2; have HN1 := Hd.mk hn1; have HB : Hd (Below w.heap.size w w1) := ⟨bel_then (by repeat (first | exact HB.out | exact Below.refl _ _ | refine below_alloc ?_ _ | refine below_drewN ?_ _ | refine below_drew ?_ | refine below_set ?_ (by first | exact Nat.le_refl _ | omega | (simp; done) | (simp; omega)) _)) hb1⟩; have hz1 : w.heap.size + 1 + 1 < w1.heap.size := (by have := hb1.size; simp at this; omega); clear hn1 hb1) | (go_at_call 89; refine (zero_eq false _ _ _ _ hl3 hd0).mono ?_; rintro e w' ⟨rfl, rfl⟩))
      have g0 : w1.cell? ⟨w.heap.size + 1 + 1, 0, none⟩ = some (.bool false) := (hc1 _ _ (by simp)).trans ((blk_third w _ _ [.bool false, .slice none 0 0] 70).cell 0)
      have g1 : w1.cell? ⟨w.heap.size + 1 + 1, 1, none⟩ = some (.slice none 0 0) := (hc1 _ _ (by simp)).trans ((blk_third w _ _ [.bool false, .slice none 0 0] 70).cell 1)
      obtain ⟨k0, k1, k2⟩ := two_set g0 g1 (.bool true) (.slice A3 (ln (x.natAbs * y.natAbs)) c3)
      refine bodyPost_ret (v := .agg #[.bool true, .slice A3 (ln (x.natAbs * y.natAbs)) c3]) (by simp [results, Try.results67, go_sem, k0, k1]) rfl ?_
      refine ⟨A3, c3, by first | (rw [HZ.out, HS.out]; done) | (rw [HZ.out, HS.out]; rfl), ?_, by repeat (first | exact HB.out | exact Below.refl _ _ | refine below_alloc ?_ _ | refine below_drewN ?_ _ | refine below_drew ?_ | refine below_set ?_ (by first | exact Nat.le_refl _ | omega | (simp; done) | (simp; omega)) _)⟩
      rw [HZ.out]
      exact (HN1.out.set_ g0 (by intro t; simp) _).set_ k2 (by intro t; simp) _
    · go_enter Try.func67, Try.ntmps67
      go_wp2_with (first | (go_at_call 117; refine (mul_calls _ _ _ _ _ _ _ (H1.out.to (by repeat (first | exact HB.out | exact Below.refl _ _ | refine below_alloc ?_ _ | refine below_drewN ?_ _ | refine below_drew ?_ | refine below_set ?_ (by first | exact Nat.le_refl _ | omega | (simp; done) | (simp; omega)) _))) (H2.out.to (by repeat (first | exact HB.out | exact Below.refl _ _ | refine below_alloc ?_ _ | refine below_drewN ?_ _ | refine below_drew ?_ | refine below_set ?_ (by first | exact Nat.le_refl _ | omega | (simp; done) | (simp; omega)) _))) l1 l2).mono ?_; rintro e w1 ⟨A3, c3, rfl, hn1, hb1⟩; obtain ⟨hc1, hf1⟩ := bcell hb1; have hl3 := Nat.le_trans hn1.2.1 hn1.2.2; have HN1 := Hd.mk hn1; have HB : Hd (Below w.heap.size w w1) := ⟨bel_then (by repeat (first | exact HB.out | exact Below.refl _ _ | refine below_alloc ?_ _ | refine below_drewN ?_ _ | refine below_drew ?_ | refine below_set ?_ (by first | exact Nat.le_refl _ | omega | (simp; done) | (simp; omega)) _)) hb1⟩; have hz1 : w.heap.size + 1 + 1 < w1.heap.size := (by have := hb1.size; simp at this; omega); clear hn1 hb1) | (go_at_call 89; refine (zero_eq false _ _ _ _ hl3 hd0).mono ?_; rintro e w' ⟨rfl, rfl⟩))
      have g0 : w1.cell? ⟨w.heap.size + 1 + 1, 0, none⟩ = some (.bool false) := (hc1 _ _ (by simp)).trans ((blk_third w _ _ [.bool false, .slice none 0 0] 70).cell 0)
      have g1 : w1.cell? ⟨w.heap.size + 1 + 1, 1, none⟩ = some (.slice none 0 0) := (hc1 _ _ (by simp)).trans ((blk_third w _ _ [.bool false, .slice none 0 0] 70).cell 1)
      obtain ⟨k0, k1, k2⟩ := two_set g0 g1 (.bool true) (.slice A3 (ln (x.natAbs * y.natAbs)) c3)
      refine bodyPost_ret (v := .agg #[.bool true, .slice A3 (ln (x.natAbs * y.natAbs)) c3]) (by simp [results, Try.results67, go_sem, k0, k1]) rfl ?_
      refine ⟨A3, c3, by first | (rw [HZ.out, HS.out]; done) | (rw [HZ.out, HS.out]; rfl), ?_, by repeat (first | exact HB.out | exact Below.refl _ _ | refine below_alloc ?_ _ | refine below_drewN ?_ _ | refine below_drew ?_ | refine below_set ?_ (by first | exact Nat.le_refl _ | omega | (simp; done) | (simp; omega)) _)⟩
      rw [HZ.out]
      exact (HN1.out.set_ g0 (by intro t; simp) _).set_ k2 (by intro t; simp) _
    · go_enter Try.func67, Try.ntmps67
      go_wp2_with (first | (go_at_call 117; refine (mul_calls _ _ _ _ _ _ _ (H1.out.to (by repeat (first | exact HB.out | exact Below.refl _ _ | refine below_alloc ?_ _ | refine below_drewN ?_ _ | refine below_drew ?_ | refine below_set ?_ (by first | exact Nat.le_refl _ | omega | (simp; done) | (simp; omega)) _))) (H2.out.to (by repeat (first | exact HB.out | exact Below.refl _ _ | refine below_alloc ?_ _ | refine below_drewN ?_ _ | refine below_drew ?_ | refine below_set ?_ (by first | exact Nat.le_refl _ | omega | (simp; done) | (simp; omega)) _))) l1 l2).mono ?_; rintro e w1 ⟨A3, c3, rfl, hn1, hb1⟩; obtain ⟨hc1, hf1⟩ := bcell hb1; have hl3 := Nat.le_trans hn1.2.1 hn1.2.2; have HN1 := Hd.mk hn1; have HB : Hd (Below w.heap.size w w1) := ⟨bel_then (by repeat (first | exact HB.out | exact Below.refl _ _ | refine below_alloc ?_ _ | refine below_drewN ?_ _ | refine below_drew ?_ | refine below_set ?_ (by first | exact Nat.le_refl _ | omega | (simp; done) | (simp; omega)) _)) hb1⟩; have hz1 : w.heap.size + 1 + 1 < w1.heap.size := (by have := hb1.size; simp at this; omega); clear hn1 hb1) | (go_at_call 89; refine (zero_eq false _ _ _ _ hl3 hd0).mono ?_; rintro e w' ⟨rfl, rfl⟩))
      have g0 : w1.cell? ⟨w.heap.size + 1 + 1, 0, none⟩ = some (.bool false) := (hc1 _ _ (by simp)).trans ((blk_third w _ _ [.bool false, .slice none 0 0] 70).cell 0)
      have g1 : w1.cell? ⟨w.heap.size + 1 + 1, 1, none⟩ = some (.slice none 0 0) := (hc1 _ _ (by simp)).trans ((blk_third w _ _ [.bool false, .slice none 0 0] 70).cell 1)
      obtain ⟨k0, k1, k2⟩ := two_set g0 g1 (.bool false) (.slice A3 (ln (x.natAbs * y.natAbs)) c3)
      refine bodyPost_ret (v := .agg #[.bool false, .slice A3 (ln (x.natAbs * y.natAbs)) c3]) (by simp [results, Try.results67, go_sem, k0, k1]) rfl ?_
      refine ⟨A3, c3, by first | (rw [HZ.out, HS.out]; done) | (rw [HZ.out, HS.out]; rfl), ?_, by repeat (first | exact HB.out | exact Below.refl _ _ | refine below_alloc ?_ _ | refine below_drewN ?_ _ | refine below_drew ?_ | refine below_set ?_ (by first | exact Nat.le_refl _ | omega | (simp; done) | (simp; omega)) _)⟩
      rw [HZ.out]
      exact (HN1.out.set_ g0 (by intro t; simp) _).set_ k2 (by intro t; simp) _
end Go.Proofs.Ytcjcpfafalkceaa
