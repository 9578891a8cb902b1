/- Part 14 of the texts behind this claim. -/
import Derived.Shelf.Small.Bits
import Derived.Ground.SlgnProg
import Derived.Shelf.SlicesE.Clone
import Derived.Test.YtddbmckbankmeaaGreatProg
import Derived.Lib.ItoaNum
import Derived.Test.YtddbmckbankmeaaGreatKb11
import Derived.Test.YtddbmckbankmeaaGreatKb13
set_option linter.unusedVariables false
namespace Go.Proofs.YtddbmckbankmeaaGreat.Ex
open Go.RowKit
theorem sgn_same (x y : Int) (h : decide (x < 0) = decide (y < 0)) : (decide (x < 0) && decide (0 < ln (x + y).natAbs)) = decide (x + y < 0) := by
 rw [decide_eq_decide] at h; rw [Bool.eq_iff_iff]; simp only [Bool.and_eq_true, decide_eq_true_eq, ln_pos]; omega
theorem sgn_left (x y : Int) (h : ¬ decide (x < 0) = decide (y < 0)) (hle : y.natAbs ≤ x.natAbs) : (decide (x < 0) && decide (0 < ln (x + y).natAbs)) = decide (x + y < 0) := by
 rw [decide_eq_decide] at h; rw [Bool.eq_iff_iff]; simp only [Bool.and_eq_true, decide_eq_true_eq, ln_pos]; omega
theorem sgn_right (x y : Int) (h : ¬ decide (x < 0) = decide (y < 0)) (hle : x.natAbs < y.natAbs) : (decide (y < 0) && decide (0 < ln (x + y).natAbs)) = decide (x + y < 0) := by
 rw [decide_eq_decide] at h; rw [Bool.eq_iff_iff]; simp only [Bool.and_eq_true, decide_eq_true_eq, ln_pos]; omega
set_option maxHeartbeats 1000000 in
set_option maxRecDepth 100000 in
theorem rPlus_calls (x y : Int) (A1 : Option Addr) (c1 : Nat) (A2 : Option Addr) (c2 : Nat) (w : World) (h1 : NN w A1 c1 x.natAbs) (h2 : NN w A2 c2 y.natAbs) (l1 : ln x.natAbs ≤ 1073741824) (l2 : ln y.natAbs ≤ 1073741824) :
  Calls Tryz.prog 42 #[.agg #[.bool (decide (x < 0)), .slice A1 (ln x.natAbs) c1], .agg #[.bool (decide (y < 0)), .slice A2 (ln y.natAbs) c2]] w (RetZ (x + y) w) := by
 obtain ⟨b3, hb3⟩ : ∃ b, b = decide (x + y < 0) := ⟨_, rfl⟩; have HB3 := Hd.mk hb3; by_cases hs : decide (x < 0) = decide (y < 0)
 ·have HS := Hd.mk (sgn_same x y hs); have HT := Hd.mk (fun W (hW : Below w.heap.size w W) => rplus_calls A1 c1 x.natAbs A2 c2 y.natAbs W (h1.to hW) (h2.to hW) (by omega) (by omega)); have e : x.natAbs + y.natAbs = (x + y).natAbs := by rw [decide_eq_decide] at hs; omega
  rw [e] at HT; obtain ⟨b1, hb1⟩ : ∃ b, b = decide (x < 0) := ⟨_, rfl⟩; rw [← hb1, ← hb3] at HS; rw [← hs, ← hb1]; have hbb : (b1 == b1) = true := by simp
  clear h1 h2 hb1 hb3 hs e; go_enter Tryz.func42, Tryz.ntmps42
  go_wp2_with fail
  obtain ⟨W0, hW0⟩ : ∃ W : World, W = ((w.alloc (.cells #[.bool b1, .slice A1 (ln x.natAbs) c1] 50)).alloc (.cells #[.bool b1, .slice A2 (ln y.natAbs) c2] 50)).alloc (.cells #[.bool false, .slice none 0 0] 50) := ⟨_, rfl⟩; rw [← hW0]; have HSZ : Hd (w.heap.size + 1 + 1 + 1 = W0.heap.size) := ⟨by rw [hW0]; simp⟩; obtain ⟨hB0, hB1, hB2, hBW⟩ := boxes3 hW0; have q0 := hB0.c0; have q1 := hB0.c1; have q2 := hB1.c0; have q3 := hB1.c1; have g0 := hB2.c0; have g1 := hB2.c1; have u0 := hB2.f0; have u1 := hB2.f1; have Q0 := Hd.mk hB0; have Q1 := Hd.mk hB1; have QR := Hd.mk hB2; have HW := Hd.mk hBW; have HB : Hd (Below W0.heap.size W0 W0) := ⟨Below.refl _ _⟩; clear hB0 hB1 hB2 hBW hW0
  go_region_held3 (fun w' => w'.cell? ⟨w.heap.size, 0, none⟩ = some (.bool b1) ∧ w'.cell? ⟨w.heap.size, 1, none⟩ = some (.slice A1 (ln x.natAbs) c1) ∧ w'.cell? ⟨w.heap.size + 1, 0, none⟩ = some (.bool b1) ∧ w'.cell? ⟨w.heap.size + 1, 1, none⟩ = some (.slice A2 (ln y.natAbs) c2)) (first | exact ⟨q0, q1, q2, q3⟩ | (repeat' apply And.intro) <;> (first | exact q0 | exact q1 | exact q2 | exact q3 | (go_keep; done) | (rw [World.cell?_setCell_far _ _ _ _ (by first | (simp; done) | (simp; omega)), World.cell?_setCell_far _ _ _ _ (by first | (simp; done) | (simp; omega))]; first | exact q0 | exact q1 | exact q2 | exact q3)))
   (first | (go_at_call 80; refine (HT.out _ (bel_then HW.out (by repeat (first | exact HB.out | exact Below.refl _ _ | refine below_alloc ?_ _ | refine below_drewN ?_ _ | refine below_drew ?_ | refine below_set ?_ (by first | exact Nat.le_refl _ | omega | (simp; done) | (simp; omega)) _)))).mono ?_; rintro e w1 ⟨A3, c3, rfl, hn1, hb1⟩; have hl3 := Nat.le_trans hn1.2.1 hn1.2.2; have HN1 := Hd.mk hn1; clear hn1; have HB' : Hd (Below W0.heap.size W0 _) := ⟨bel_then (by repeat (first | exact HB.out | exact Below.refl _ _ | refine below_alloc ?_ _ | refine below_drewN ?_ _ | refine below_drew ?_ | refine below_set ?_ (by first | exact Nat.le_refl _ | omega | (simp; done) | (simp; omega)) _)) hb1⟩; clear HB; have HB := HB'; clear HB' hb1; replace q0 := (Q0.out.to HB.out).c0; replace q1 := (Q0.out.to HB.out).c1; replace q2 := (Q1.out.to HB.out).c0; replace q3 := (Q1.out.to HB.out).c1; replace g0 := (QR.out.to HB.out).c0; replace g1 := (QR.out.to HB.out).c1; replace u0 := (QR.out.to HB.out).f0; replace u1 := (QR.out.to HB.out).f1) | (go_at_call 78; refine (signed_calls b1 b3 _ _ _ _ hl3 HS.out).mono ?_; rintro e w2 ⟨rfl, hb2⟩; have HN := Hd.mk (HN1.out.to hb2); clear HN1; have HB' : Hd (Below W0.heap.size W0 _) := ⟨bel_then (by repeat (first | exact HB.out | exact Below.refl _ _ | refine below_alloc ?_ _ | refine below_drewN ?_ _ | refine below_drew ?_ | refine below_set ?_ (by first | exact Nat.le_refl _ | omega | (simp; done) | (simp; omega)) _)) hb2⟩; clear HB; have HB := HB'; clear HB' hb2; replace q0 := (Q0.out.to HB.out).c0; replace q1 := (Q0.out.to HB.out).c1; replace q2 := (Q1.out.to HB.out).c0; replace q3 := (Q1.out.to HB.out).c1; replace g0 := (QR.out.to HB.out).c0; replace g1 := (QR.out.to HB.out).c1; replace u0 := (QR.out.to HB.out).f0; replace u1 := (QR.out.to HB.out).f1))
  go_wp2_with fail
  obtain ⟨k0, k1, k2⟩ := two_set g0 g1 (.bool b3) (.slice A3 (ln (x + y).natAbs) c3); refine bodyPost_ret (v := .agg #[.bool b3, .slice A3 (ln (x + y).natAbs) c3]) (by simp [results, Tryz.results42, go_sem, k0, k1]) rfl ?_; exact ⟨A3, c3, by rw [HB3.out], (HN.out.set_ g0 (by intro t; simp) _).set_ k2 (by intro t; simp) _, (by repeat (first | exact bel_then HW.out HB.out | refine below_set ?_ (by first | exact Nat.le_refl _ | omega | (simp; done) | (simp; omega)) _ | refine below_alloc ?_ _ | refine below_drewN ?_ _ | refine below_drew ?_))⟩
 have hbn : ∃ b1 b2, b1 = decide (x < 0) ∧ b2 = decide (y < 0) ∧ (b1 == b2) = false := ⟨_, _, rfl, rfl, by simpa using hs⟩; obtain ⟨b1, b2, hb1, hb2, hbb⟩ := hbn; have HC := Hd.mk (fun W (hW : Below w.heap.size w W) => order_calls A1 c1 x.natAbs A2 c2 y.natAbs W (h1.to hW) (h2.to hW)); by_cases hle : y.natAbs ≤ x.natAbs
 ·have HS := Hd.mk (sgn_left x y hs hle); have HT := Hd.mk (fun W (hW : Below w.heap.size w W) => rless_calls A1 c1 x.natAbs A2 c2 y.natAbs W (h1.to hW) (h2.to hW) hle (by omega)); have e : x.natAbs - y.natAbs = (x + y).natAbs := by rw [decide_eq_decide] at hs; omega
  obtain ⟨v, hv⟩ : ∃ v, v = cmpv x.natAbs y.natAbs := ⟨_, rfl⟩; have hv0 : 0 ≤ v := by rw [hv]; unfold cmpv; rw [if_neg (by omega)]; split <;> omega
  have HV := Hd.mk hv; rw [e] at HT; rw [← hb1, ← hb2]; rw [← hb1, ← hb3] at HS; clear h1 h2 hb1 hb2 hb3 hs e hv hle; go_enter Tryz.func42, Tryz.ntmps42
  go_wp2_with fail
  obtain ⟨W0, hW0⟩ : ∃ W : World, W = ((w.alloc (.cells #[.bool b1, .slice A1 (ln x.natAbs) c1] 50)).alloc (.cells #[.bool b2, .slice A2 (ln y.natAbs) c2] 50)).alloc (.cells #[.bool false, .slice none 0 0] 50) := ⟨_, rfl⟩; rw [← hW0]; have HSZ : Hd (w.heap.size + 1 + 1 + 1 = W0.heap.size) := ⟨by rw [hW0]; simp⟩; obtain ⟨hB0, hB1, hB2, hBW⟩ := boxes3 hW0; have q0 := hB0.c0; have q1 := hB0.c1; have q2 := hB1.c0; have q3 := hB1.c1; have g0 := hB2.c0; have g1 := hB2.c1; have u0 := hB2.f0; have u1 := hB2.f1; have Q0 := Hd.mk hB0; have Q1 := Hd.mk hB1; have QR := Hd.mk hB2; have HW := Hd.mk hBW; have HB : Hd (Below W0.heap.size W0 W0) := ⟨Below.refl _ _⟩; clear hB0 hB1 hB2 hBW hW0; go_wp2_with (first | (go_at_call 38; refine (HC.out _ HW.out).mono ?_; rintro e w' ⟨rfl, q, rfl⟩; rw [← HV.out]))
  go_region_held3 (fun w' => w'.cell? ⟨w.heap.size, 0, none⟩ = some (.bool b1) ∧ w'.cell? ⟨w.heap.size, 1, none⟩ = some (.slice A1 (ln x.natAbs) c1) ∧ w'.cell? ⟨w.heap.size + 1, 0, none⟩ = some (.bool b2) ∧ w'.cell? ⟨w.heap.size + 1, 1, none⟩ = some (.slice A2 (ln y.natAbs) c2)) (first | exact ⟨q0, q1, q2, q3⟩ | (repeat' apply And.intro) <;> (first | exact q0 | exact q1 | exact q2 | exact q3 | (go_keep; done) | (rw [World.cell?_setCell_far _ _ _ _ (by first | (simp; done) | (simp; omega)), World.cell?_setCell_far _ _ _ _ (by first | (simp; done) | (simp; omega))]; first | exact q0 | exact q1 | exact q2 | exact q3)))
   (first | (go_at_call 81; refine (HT.out _ (bel_then HW.out (by repeat (first | exact HB.out | exact Below.refl _ _ | refine below_alloc ?_ _ | refine below_drewN ?_ _ | refine below_drew ?_ | refine below_set ?_ (by first | exact Nat.le_refl _ | omega | (simp; done) | (simp; omega)) _)))).mono ?_; rintro e w1 ⟨A3, c3, rfl, hn1, hb1⟩; have hl3 := Nat.le_trans hn1.2.1 hn1.2.2; have HN1 := Hd.mk hn1; clear hn1; have HB' : Hd (Below W0.heap.size W0 _) := ⟨bel_then (by repeat (first | exact HB.out | exact Below.refl _ _ | refine below_alloc ?_ _ | refine below_drewN ?_ _ | refine below_drew ?_ | refine below_set ?_ (by first | exact Nat.le_refl _ | omega | (simp; done) | (simp; omega)) _)) hb1⟩; clear HB; have HB := HB'; clear HB' hb1; replace q0 := (Q0.out.to HB.out).c0; replace q1 := (Q0.out.to HB.out).c1; replace q2 := (Q1.out.to HB.out).c0; replace q3 := (Q1.out.to HB.out).c1; replace g0 := (QR.out.to HB.out).c0; replace g1 := (QR.out.to HB.out).c1; replace u0 := (QR.out.to HB.out).f0; replace u1 := (QR.out.to HB.out).f1) | (go_at_call 78; refine (signed_calls b1 b3 _ _ _ _ hl3 HS.out).mono ?_; rintro e w2 ⟨rfl, hb2⟩; have HN := Hd.mk (HN1.out.to hb2); clear HN1; have HB' : Hd (Below W0.heap.size W0 _) := ⟨bel_then (by repeat (first | exact HB.out | exact Below.refl _ _ | refine below_alloc ?_ _ | refine below_drewN ?_ _ | refine below_drew ?_ | refine below_set ?_ (by first | exact Nat.le_refl _ | omega | (simp; done) | (simp; omega)) _)) hb2⟩; clear HB; have HB := HB'; clear HB' hb2; replace q0 := (Q0.out.to HB.out).c0; replace q1 := (Q0.out.to HB.out).c1; replace q2 := (Q1.out.to HB.out).c0; replace q3 := (Q1.out.to HB.out).c1; replace g0 := (QR.out.to HB.out).c0; replace g1 := (QR.out.to HB.out).c1; replace u0 := (QR.out.to HB.out).f0; replace u1 := (QR.out.to HB.out).f1))
  go_wp2_with fail
  obtain ⟨k0, k1, k2⟩ := two_set g0 g1 (.bool b3) (.slice A3 (ln (x + y).natAbs) c3); refine bodyPost_ret (v := .agg #[.bool b3, .slice A3 (ln (x + y).natAbs) c3]) (by simp [results, Tryz.results42, go_sem, k0, k1]) rfl ?_; exact ⟨A3, c3, by rw [HB3.out], (HN.out.set_ g0 (by intro t; simp) _).set_ k2 (by intro t; simp) _, (by repeat (first | exact bel_then HW.out HB.out | refine below_set ?_ (by first | exact Nat.le_refl _ | omega | (simp; done) | (simp; omega)) _ | refine below_alloc ?_ _ | refine below_drewN ?_ _ | refine below_drew ?_))⟩
 have HS := Hd.mk (sgn_right x y hs (by omega)); have HT := Hd.mk (fun W (hW : Below w.heap.size w W) => rless_calls A2 c2 y.natAbs A1 c1 x.natAbs W (h2.to hW) (h1.to hW) (by omega) (by omega)); have e : y.natAbs - x.natAbs = (x + y).natAbs := by rw [decide_eq_decide] at hs; omega
 obtain ⟨v, hv⟩ : ∃ v, v = cmpv x.natAbs y.natAbs := ⟨_, rfl⟩; have hv0 : v < 0 := by rw [hv]; unfold cmpv; rw [if_pos (by omega)]; omega
 have HV := Hd.mk hv; rw [e] at HT; rw [← hb1, ← hb2]; rw [← hb2, ← hb3] at HS; clear h1 h2 hb1 hb2 hb3 hs e hv hle; go_enter Tryz.func42, Tryz.ntmps42
 go_wp2_with fail
 obtain ⟨W0, hW0⟩ : ∃ W : World, W = ((w.alloc (.cells #[.bool b1, .slice A1 (ln x.natAbs) c1] 50)).alloc (.cells #[.bool b2, .slice A2 (ln y.natAbs) c2] 50)).alloc (.cells #[.bool false, .slice none 0 0] 50) := ⟨_, rfl⟩; rw [← hW0]; have HSZ : Hd (w.heap.size + 1 + 1 + 1 = W0.heap.size) := ⟨by rw [hW0]; simp⟩; obtain ⟨hB0, hB1, hB2, hBW⟩ := boxes3 hW0; have q0 := hB0.c0; have q1 := hB0.c1; have q2 := hB1.c0; have q3 := hB1.c1; have g0 := hB2.c0; have g1 := hB2.c1; have u0 := hB2.f0; have u1 := hB2.f1; have Q0 := Hd.mk hB0; have Q1 := Hd.mk hB1; have QR := Hd.mk hB2; have HW := Hd.mk hBW; have HB : Hd (Below W0.heap.size W0 W0) := ⟨Below.refl _ _⟩; clear hB0 hB1 hB2 hBW hW0; go_wp2_with (first | (go_at_call 38; refine (HC.out _ HW.out).mono ?_; rintro e w' ⟨rfl, q, rfl⟩; rw [← HV.out]))
 go_region_held3 (fun w' => w'.cell? ⟨w.heap.size, 0, none⟩ = some (.bool b1) ∧ w'.cell? ⟨w.heap.size, 1, none⟩ = some (.slice A1 (ln x.natAbs) c1) ∧ w'.cell? ⟨w.heap.size + 1, 0, none⟩ = some (.bool b2) ∧ w'.cell? ⟨w.heap.size + 1, 1, none⟩ = some (.slice A2 (ln y.natAbs) c2)) (first | exact ⟨q0, q1, q2, q3⟩ | (repeat' apply And.intro) <;> (first | exact q0 | exact q1 | exact q2 | exact q3 | (go_keep; done) | (rw [World.cell?_setCell_far _ _ _ _ (by first | (simp; done) | (simp; omega)), World.cell?_setCell_far _ _ _ _ (by first | (simp; done) | (simp; omega))]; first | exact q0 | exact q1 | exact q2 | exact q3)))
  (first | (go_at_call 81; refine (HT.out _ (bel_then HW.out (by repeat (first | exact HB.out | exact Below.refl _ _ | refine below_alloc ?_ _ | refine below_drewN ?_ _ | refine below_drew ?_ | refine below_set ?_ (by first | exact Nat.le_refl _ | omega | (simp; done) | (simp; omega)) _)))).mono ?_; rintro e w1 ⟨A3, c3, rfl, hn1, hb1⟩; have hl3 := Nat.le_trans hn1.2.1 hn1.2.2; have HN1 := Hd.mk hn1; clear hn1; have HB' : Hd (Below W0.heap.size W0 _) := ⟨bel_then (by repeat (first | exact HB.out | exact Below.refl _ _ | refine below_alloc ?_ _ | refine below_drewN ?_ _ | refine below_drew ?_ | refine below_set ?_ (by first | exact Nat.le_refl _ | omega | (simp; done) | (simp; omega)) _)) hb1⟩; clear HB; have HB := HB'; clear HB' hb1; replace q0 := (Q0.out.to HB.out).c0; replace q1 := (Q0.out.to HB.out).c1; replace q2 := (Q1.out.to HB.out).c0; replace q3 := (Q1.out.to HB.out).c1; replace g0 := (QR.out.to HB.out).c0; replace g1 := (QR.out.to HB.out).c1; replace u0 := (QR.out.to HB.out).f0; replace u1 := (QR.out.to HB.out).f1) | (go_at_call 78; refine (signed_calls b2 b3 _ _ _ _ hl3 HS.out).mono ?_; rintro e w2 ⟨rfl, hb2⟩; have HN := Hd.mk (HN1.out.to hb2); clear HN1; have HB' : Hd (Below W0.heap.size W0 _) := ⟨bel_then (by repeat (first | exact HB.out | exact Below.refl _ _ | refine below_alloc ?_ _ | refine below_drewN ?_ _ | refine below_drew ?_ | refine below_set ?_ (by first | exact Nat.le_refl _ | omega | (simp; done) | (simp; omega)) _)) hb2⟩; clear HB; have HB := HB'; clear HB' hb2; replace q0 := (Q0.out.to HB.out).c0; replace q1 := (Q0.out.to HB.out).c1; replace q2 := (Q1.out.to HB.out).c0; replace q3 := (Q1.out.to HB.out).c1; replace g0 := (QR.out.to HB.out).c0; replace g1 := (QR.out.to HB.out).c1; replace u0 := (QR.out.to HB.out).f0; replace u1 := (QR.out.to HB.out).f1))
 go_wp2_with fail
 obtain ⟨k0, k1, k2⟩ := two_set g0 g1 (.bool b3) (.slice A3 (ln (x + y).natAbs) c3); refine bodyPost_ret (v := .agg #[.bool b3, .slice A3 (ln (x + y).natAbs) c3]) (by simp [results, Tryz.results42, go_sem, k0, k1]) rfl ?_; exact ⟨A3, c3, by rw [HB3.out], (HN.out.set_ g0 (by intro t; simp) _).set_ k2 (by intro t; simp) _, (by repeat (first | exact bel_then HW.out HB.out | refine below_set ?_ (by first | exact Nat.le_refl _ | omega | (simp; done) | (simp; omega)) _ | refine below_alloc ?_ _ | refine below_drewN ?_ _ | refine below_drew ?_))⟩
set_option maxHeartbeats 1000000 in
set_option maxRecDepth 100000 in
theorem rLess_calls (x y : Int) (A1 : Option Addr) (c1 : Nat) (A2 : Option Addr) (c2 : Nat) (w : World) (h1 : NN w A1 c1 x.natAbs) (h2 : NN w A2 c2 y.natAbs) (l1 : ln x.natAbs ≤ 1073741824) (l2 : ln y.natAbs ≤ 1073741824) :
  Calls Tryz.prog 49 #[.agg #[.bool (decide (x < 0)), .slice A1 (ln x.natAbs) c1], .agg #[.bool (decide (y < 0)), .slice A2 (ln y.natAbs) c2]] w (RetZ (x - y) w) := by
 have hn2 : (-y).natAbs = y.natAbs := Int.natAbs_neg y; have HM := Hd.mk (fun W (hW : Below w.heap.size w W) => rMinus_calls y A2 c2 W (h2.to hW)); have HA := Hd.mk (fun W (hW : Below w.heap.size w W) => rPlus_calls x (-y) A1 c1 A2 c2 W (h1.to hW) (by rw [hn2]; exact h2.to hW) l1 (by rw [hn2]; exact l2)); rw [hn2, show x + -y = x - y from by omega] at HA; obtain ⟨b1, hb1⟩ : ∃ b, b = decide (x < 0) := ⟨_, rfl⟩; obtain ⟨b2, hb2⟩ : ∃ b, b = decide (y < 0) := ⟨_, rfl⟩; obtain ⟨b3, hb3⟩ : ∃ b, b = decide (-y < 0) := ⟨_, rfl⟩; obtain ⟨b4, hb4⟩ : ∃ b, b = decide (x - y < 0) := ⟨_, rfl⟩; rw [← hb1, ← hb3] at HA; rw [← hb2, ← hb3] at HM; rw [← hb1, ← hb2]; clear hb1 hb2 hb3 hn2 h1 h2; have HB4 := Hd.mk hb4; clear hb4; go_enter Tryz.func49, Tryz.ntmps49
 go_wp2_with fail
 obtain ⟨W0, hW0⟩ : ∃ W : World, W = ((w.alloc (.cells #[.bool b1, .slice A1 (ln x.natAbs) c1] 50)).alloc (.cells #[.bool b2, .slice A2 (ln y.natAbs) c2] 50)).alloc (.cells #[.bool false, .slice none 0 0] 50) := ⟨_, rfl⟩; rw [← hW0]; have HSZ : Hd (w.heap.size + 1 + 1 + 1 = W0.heap.size) := ⟨by rw [hW0]; simp⟩; obtain ⟨hB0, hB1, hB2, hBW⟩ := boxes3 hW0; have q0 := hB0.c0; have q1 := hB0.c1; have q2 := hB1.c0; have q3 := hB1.c1; have g0 := hB2.c0; have g1 := hB2.c1; have u0 := hB2.f0; have u1 := hB2.f1; have Q0 := Hd.mk hB0; have Q1 := Hd.mk hB1; have QR := Hd.mk hB2; have HW := Hd.mk hBW; have HB : Hd (Below W0.heap.size W0 W0) := ⟨Below.refl _ _⟩; clear hB0 hB1 hB2 hBW hW0
 go_region_held3 (fun w' => w'.cell? ⟨w.heap.size, 0, none⟩ = some (.bool b1) ∧ w'.cell? ⟨w.heap.size, 1, none⟩ = some (.slice A1 (ln x.natAbs) c1) ∧ w'.cell? ⟨w.heap.size + 1, 0, none⟩ = some (.bool b2) ∧ w'.cell? ⟨w.heap.size + 1, 1, none⟩ = some (.slice A2 (ln y.natAbs) c2)) (first | exact ⟨q0, q1, q2, q3⟩ | (repeat' apply And.intro) <;> (first | exact q0 | exact q1 | exact q2 | exact q3 | (go_keep; done) | (rw [World.cell?_setCell_far _ _ _ _ (by first | (simp; done) | (simp; omega)), World.cell?_setCell_far _ _ _ _ (by first | (simp; done) | (simp; omega))]; first | exact q0 | exact q1 | exact q2 | exact q3)))
  (first | (go_at_call 83; refine (HM.out _ (bel_then HW.out (by repeat (first | exact HB.out | exact Below.refl _ _ | refine below_alloc ?_ _ | refine below_drewN ?_ _ | refine below_drew ?_ | refine below_set ?_ (by first | exact Nat.le_refl _ | omega | (simp; done) | (simp; omega)) _)))).mono ?_; rintro e w1 ⟨rfl, hb1⟩; have HB' : Hd (Below W0.heap.size W0 _) := ⟨bel_then (by repeat (first | exact HB.out | exact Below.refl _ _ | refine below_alloc ?_ _ | refine below_drewN ?_ _ | refine below_drew ?_ | refine below_set ?_ (by first | exact Nat.le_refl _ | omega | (simp; done) | (simp; omega)) _)) hb1⟩; clear HB; have HB := HB'; clear HB' hb1; replace q0 := (Q0.out.to HB.out).c0; replace q1 := (Q0.out.to HB.out).c1; replace q2 := (Q1.out.to HB.out).c0; replace q3 := (Q1.out.to HB.out).c1; replace g0 := (QR.out.to HB.out).c0; replace g1 := (QR.out.to HB.out).c1; replace u0 := (QR.out.to HB.out).f0; replace u1 := (QR.out.to HB.out).f1) | (go_at_call 42; refine (HA.out _ (bel_then HW.out (by repeat (first | exact HB.out | exact Below.refl _ _ | refine below_alloc ?_ _ | refine below_drewN ?_ _ | refine below_drew ?_ | refine below_set ?_ (by first | exact Nat.le_refl _ | omega | (simp; done) | (simp; omega)) _)))).mono ?_; rintro e w2 ⟨A3, c3, rfl, hn1, hb2⟩; rw [← HB4.out]; have HN := Hd.mk hn1; clear hn1; have HB' : Hd (Below W0.heap.size W0 _) := ⟨bel_then (by repeat (first | exact HB.out | exact Below.refl _ _ | refine below_alloc ?_ _ | refine below_drewN ?_ _ | refine below_drew ?_ | refine below_set ?_ (by first | exact Nat.le_refl _ | omega | (simp; done) | (simp; omega)) _)) hb2⟩; clear HB; have HB := HB'; clear HB' hb2; replace q0 := (Q0.out.to HB.out).c0; replace q1 := (Q0.out.to HB.out).c1; replace q2 := (Q1.out.to HB.out).c0; replace q3 := (Q1.out.to HB.out).c1; replace g0 := (QR.out.to HB.out).c0; replace g1 := (QR.out.to HB.out).c1; replace u0 := (QR.out.to HB.out).f0; replace u1 := (QR.out.to HB.out).f1))
 go_wp2_with fail
 obtain ⟨k0, k1, k2⟩ := two_set g0 g1 (.bool b4) (.slice A3 (ln (x - y).natAbs) c3); refine bodyPost_ret (v := .agg #[.bool b4, .slice A3 (ln (x - y).natAbs) c3]) (by simp [results, Tryz.results49, go_sem, k0, k1]) rfl ?_; exact ⟨A3, c3, by rw [HB4.out], (HN.out.set_ g0 (by intro t; simp) _).set_ k2 (by intro t; simp) _, (by repeat (first | exact bel_then HW.out HB.out | refine below_set ?_ (by first | exact Nat.le_refl _ | omega | (simp; done) | (simp; omega)) _ | refine below_alloc ?_ _ | refine below_drewN ?_ _ | refine below_drew ?_))⟩
set_option maxRecDepth 100000 in
theorem rOrder_calls (x y : Int) (A1 : Option Addr) (c1 : Nat) (A2 : Option Addr) (c2 : Nat) (w : World) (h1 : NN w A1 c1 x.natAbs) (h2 : NN w A2 c2 y.natAbs) (l1 : ln x.natAbs ≤ 1073741824) (l2 : ln y.natAbs ≤ 1073741824) :
  Calls Tryz.prog 16 #[.agg #[.bool (decide (x < 0)), .slice A1 (ln x.natAbs) c1], .agg #[.bool (decide (y < 0)), .slice A2 (ln y.natAbs) c2]] w fun e w' => e = .returned (.int .i64 (sgnv (x - y))) ∧ Below w.heap.size w w' := by
 have HA := Hd.mk (fun W (hW : Below w.heap.size w W) => rLess_calls x y A1 c1 A2 c2 W (h1.to hW) (h2.to hW) l1 l2); obtain ⟨b1, hb1⟩ : ∃ b, b = decide (x < 0) := ⟨_, rfl⟩; obtain ⟨b2, hb2⟩ : ∃ b, b = decide (y < 0) := ⟨_, rfl⟩; rw [← hb1, ← hb2] at HA ⊢; clear hb1 hb2 h1 h2; go_enter Tryz.func16, Tryz.ntmps16
 go_wp2_with fail
 obtain ⟨W0, hW0⟩ : ∃ W : World, W = (w.alloc (.cells #[.bool b1, .slice A1 (ln x.natAbs) c1] 50)).alloc (.cells #[.bool b2, .slice A2 (ln y.natAbs) c2] 50) := ⟨_, rfl⟩; rw [← hW0]; have HSZ : Hd (w.heap.size + 1 + 1 = W0.heap.size) := ⟨by rw [hW0]; simp⟩; obtain ⟨hB0, hB1, hBW⟩ := boxes2 hW0; have q0 := hB0.c0; have q1 := hB0.c1; have q2 := hB1.c0; have q3 := hB1.c1; have Q0 := Hd.mk hB0; have Q1 := Hd.mk hB1; have HW := Hd.mk hBW; have HB : Hd (Below W0.heap.size W0 W0) := ⟨Below.refl _ _⟩; clear hB0 hB1 hBW hW0; go_wp2_with (first | (go_at_call 49; refine (HA.out _ (bel_then HW.out (by repeat (first | exact HB.out | exact Below.refl _ _ | refine below_alloc ?_ _ | refine below_drewN ?_ _ | refine below_drew ?_ | refine below_set ?_ (by first | exact Nat.le_refl _ | omega | (simp; done) | (simp; omega)) _)))).mono ?_; rintro e w1 ⟨A3, c3, rfl, hn1, hb1⟩; have hl3 := Nat.le_trans hn1.2.1 hn1.2.2; clear hn1; have HB' : Hd (Below W0.heap.size W0 _) := ⟨bel_then (by repeat (first | exact HB.out | exact Below.refl _ _ | refine below_alloc ?_ _ | refine below_drewN ?_ _ | refine below_drew ?_ | refine below_set ?_ (by first | exact Nat.le_refl _ | omega | (simp; done) | (simp; omega)) _)) hb1⟩; clear HB; have HB := HB'; clear HB' hb1; replace q0 := (Q0.out.to HB.out).c0; replace q1 := (Q0.out.to HB.out).c1; replace q2 := (Q1.out.to HB.out).c0; replace q3 := (Q1.out.to HB.out).c1) | (go_at_call 48; refine (rSign_calls (x - y) A3 c3 _ hl3).mono ?_; rintro e w2 ⟨rfl, hb2⟩; have HB' : Hd (Below W0.heap.size W0 _) := ⟨bel_then (by repeat (first | exact HB.out | exact Below.refl _ _ | refine below_alloc ?_ _ | refine below_drewN ?_ _ | refine below_drew ?_ | refine below_set ?_ (by first | exact Nat.le_refl _ | omega | (simp; done) | (simp; omega)) _)) hb2⟩; clear HB; have HB := HB'; clear HB' hb2; replace q0 := (Q0.out.to HB.out).c0; replace q1 := (Q0.out.to HB.out).c1; replace q2 := (Q1.out.to HB.out).c0; replace q3 := (Q1.out.to HB.out).c1))
 go_ret
 exact ⟨rfl, (by repeat (first | exact bel_then HW.out HB.out | refine below_set ?_ (by first | exact Nat.le_refl _ | omega | (simp; done) | (simp; omega)) _ | refine below_alloc ?_ _ | refine below_drewN ?_ _ | refine below_drew ?_))⟩
theorem zsame {x y : Int} : x = y ↔ (decide (x < 0) = decide (y < 0) ∧ x.natAbs = y.natAbs) := by
 constructor
 ·rintro rfl; exact ⟨rfl, rfl⟩
 rintro ⟨h1, h2⟩; rw [decide_eq_decide] at h1; omega
set_option maxRecDepth 100000 in
theorem same_calls (x y : Int) (A1 : Option Addr) (c1 : Nat) (A2 : Option Addr) (c2 : Nat) (w : World) (h1 : NN w A1 c1 x.natAbs) (h2 : NN w A2 c2 y.natAbs) :
  Calls Tryz.prog 9 #[.agg #[.bool (decide (x < 0)), .slice A1 (ln x.natAbs) c1], .agg #[.bool (decide (y < 0)), .slice A2 (ln y.natAbs) c2]] w fun e w' => e = .returned (.bool (decide (x = y))) ∧ Below w.heap.size w w' := by
 have hl1 := Nat.le_trans h1.2.1 h1.2.2; have hl2 := Nat.le_trans h2.2.1 h2.2.2; have HC := Hd.mk (fun W (hW : Below w.heap.size w W) => order_calls A1 c1 x.natAbs A2 c2 y.natAbs W (h1.to hW) (h2.to hW)); have HD : Hd (decide (x = y) = (decide (decide (x < 0) = decide (y < 0)) && decide (x.natAbs = y.natAbs))) := ⟨by rw [Bool.eq_iff_iff]; simp [zsame]⟩; by_cases hb : decide (x < 0) = decide (y < 0)
 ·by_cases hl : ln x.natAbs = ln y.natAbs
  ·obtain ⟨v, hv⟩ : ∃ v, v = cmpv x.natAbs y.natAbs := ⟨_, rfl⟩; have HV := Hd.mk hv; by_cases hxy : x.natAbs = y.natAbs
   ·have hr : decide (x = y) = true := by rw [HD.out, hb]; simp [hxy]
    have hv0 : v = 0 := by rw [hv]; unfold cmpv; rw [if_neg (by omega), if_pos hxy]
    rw [hr, ← hb, ← hl]; subst hv0; obtain ⟨b1, hb1⟩ : ∃ b, b = decide (x < 0) := ⟨_, rfl⟩; rw [← hb1]; have hbb : (b1 == b1) = true := by simp
    rw [← hl] at HC; clear h1 h2 hb hl hv hxy hr hb1 hl2; go_enter Tryz.func9, Tryz.ntmps9
    go_wp2_with fail
    obtain ⟨W0, hW0⟩ : ∃ W : World, W = (w.alloc (.cells #[.bool b1, .slice A1 (ln x.natAbs) c1] 25)).alloc (.cells #[.bool b1, .slice A2 (ln x.natAbs) c2] 25) := ⟨_, rfl⟩; rw [← hW0]; have HSZ : Hd (w.heap.size + 1 + 1 = W0.heap.size) := ⟨by rw [hW0]; simp⟩; obtain ⟨hB0, hB1, hBW⟩ := boxes2 hW0; have q0 := hB0.c0; have q1 := hB0.c1; have q2 := hB1.c0; have q3 := hB1.c1; have Q0 := Hd.mk hB0; have Q1 := Hd.mk hB1; have HW := Hd.mk hBW; have HB : Hd (Below W0.heap.size W0 W0) := ⟨Below.refl _ _⟩; clear hB0 hB1 hBW hW0; go_wp2_with (first | (go_at_call 38; refine (HC.out _ HW.out).mono ?_; rintro e w' ⟨rfl, q, rfl⟩; rw [← HV.out]))
    go_ret
    exact ⟨rfl, (by repeat (first | exact bel_then HW.out HB.out | refine below_set ?_ (by first | exact Nat.le_refl _ | omega | (simp; done) | (simp; omega)) _ | refine below_alloc ?_ _ | refine below_drewN ?_ _ | refine below_drew ?_))⟩
   have hr : decide (x = y) = false := by rw [HD.out]; simp [hxy]
   have hv0 : (v == 0) = false := by rw [hv, beq_eq_false_iff_ne]; unfold cmpv; split <;> (try split) <;> omega
   rw [hr, ← hb, ← hl]; obtain ⟨b1, hb1⟩ : ∃ b, b = decide (x < 0) := ⟨_, rfl⟩; rw [← hb1]; have hbb : (b1 == b1) = true := by simp
   rw [← hl] at HC; clear h1 h2 hb hl hv hxy hr hb1 hl2; go_enter Tryz.func9, Tryz.ntmps9
   go_wp2_with fail
   obtain ⟨W0, hW0⟩ : ∃ W : World, W = (w.alloc (.cells #[.bool b1, .slice A1 (ln x.natAbs) c1] 25)).alloc (.cells #[.bool b1, .slice A2 (ln x.natAbs) c2] 25) := ⟨_, rfl⟩; rw [← hW0]; have HSZ : Hd (w.heap.size + 1 + 1 = W0.heap.size) := ⟨by rw [hW0]; simp⟩; obtain ⟨hB0, hB1, hBW⟩ := boxes2 hW0; have q0 := hB0.c0; have q1 := hB0.c1; have q2 := hB1.c0; have q3 := hB1.c1; have Q0 := Hd.mk hB0; have Q1 := Hd.mk hB1; have HW := Hd.mk hBW; have HB : Hd (Below W0.heap.size W0 W0) := ⟨Below.refl _ _⟩; clear hB0 hB1 hBW hW0; go_wp2_with (first | (go_at_call 38; refine (HC.out _ HW.out).mono ?_; rintro e w' ⟨rfl, q, rfl⟩; rw [← HV.out]))
   go_ret
   exact ⟨rfl, (by repeat (first | exact bel_then HW.out HB.out | refine below_set ?_ (by first | exact Nat.le_refl _ | omega | (simp; done) | (simp; omega)) _ | refine below_alloc ?_ _ | refine below_drewN ?_ _ | refine below_drew ?_))⟩
  have hr : decide (x = y) = false := by rw [HD.out]; simp; intro _ h; exact hl (by rw [h])
  rw [hr, ← hb]; obtain ⟨b1, hb1⟩ : ∃ b, b = decide (x < 0) := ⟨_, rfl⟩; rw [← hb1]; have hbb : (b1 == b1) = true := by simp
  have hll : ((ln x.natAbs : Int) == (ln y.natAbs : Int)) = false := by rw [beq_eq_false_iff_ne]; omega
  clear h1 h2 hb hr hb1; go_enter Tryz.func9, Tryz.ntmps9
  go_wp2
  go_ret
  exact ⟨rfl, by repeat (first | exact HB.out | exact Below.refl _ _ | refine below_alloc ?_ _ | refine below_drewN ?_ _ | refine below_drew ?_ | refine below_set ?_ (by first | exact Nat.le_refl _ | omega | (simp; done) | (simp; omega)) _)⟩
 have hr : decide (x = y) = false := by rw [HD.out]; simp [hb]
 obtain ⟨b1, b2, hb1, hb2, hbb⟩ : ∃ b1 b2, b1 = decide (x < 0) ∧ b2 = decide (y < 0) ∧ (b1 == b2) = false := ⟨_, _, rfl, rfl, by simpa using hb⟩; rw [hr, ← hb1, ← hb2]; clear h1 h2 hb hr hb1 hb2; go_enter Tryz.func9, Tryz.ntmps9
 go_wp2
 go_ret
 exact ⟨rfl, by repeat (first | exact HB.out | exact Below.refl _ _ | refine below_alloc ?_ _ | refine below_drewN ?_ _ | refine below_drew ?_ | refine below_set ?_ (by first | exact Nat.le_refl _ | omega | (simp; done) | (simp; omega)) _)⟩
def opz (x y : Raw) (z : Int) : Int := if (x.ok && y.ok) = true then fitz z else 0
def ope (x y : Raw) (z : Int) : Int := if (x.ok && y.ok) = true then fite z else 2
theorem Raw.num {r : Raw} (h : r.ok = true) (hd : Dg r.xs) : r.v = .agg #[.bool (decide (r.val < 0)), .slice r.A (ln r.val.natAbs) r.c] ∧ ln r.val.natAbs = r.xs.length := by
 have e : ln r.val.natAbs = r.xs.length := by unfold ln; rw [Raw.ok_dig h hd]
 exact ⟨by unfold Raw.v; rw [e, ← Raw.ok_neg h hd], e⟩
theorem Raw.nn {r : Raw} {w : World} (h : r.ok = true) (ha : r.at_ w) : NN w r.A r.c r.val.natAbs :=
 ⟨by rw [Raw.ok_dig h ha.2.1]; exact ha.1, by rw [(Raw.num h ha.2.1).2]; exact ha.2.2.1, ha.2.2.2⟩
theorem Raw.ok_len {r : Raw} (h : r.ok = true) (hd : Dg r.xs) : ln r.val.natAbs ≤ 256 := by
 rw [(Raw.num h hd).2]; unfold Raw.ok at h; simp only [Bool.and_eq_true, decide_eq_true_eq] at h; exact h.1.1
theorem blk_new {W : World} {n : Nat} (h : n = W.heap.size) (cs : List Value) (t : TypeId) : Blk (W.alloc (.cells cs.toArray t)) n t cs := by
 subst h; exact heap_alloc_new _ _
theorem raws_two {x y : Raw} {g : Nat} {t : TypeId} {w w' : World} (hb : Below w.heap.size w w') (hx : x.at_ w) (hy : y.at_ w) (h : Blk w' g t [.bool x.neg, .slice x.A x.xs.length x.c, .bool y.neg, .slice y.A y.xs.length y.c]) : RawsAt [x, y] g w' := by
 intro i r hr
 match i, hr with
 | 0, hr =>
  simp at hr; subst hr; exact ⟨h.cell 0, h.cell 1, Raw.at_to hx hb⟩
 | 1, hr =>
  simp at hr; subst hr; exact ⟨h.cell 2, h.cell 3, Raw.at_to hy hb⟩
 | i + 2, hr => simp at hr
theorem raws_one {x : Raw} {g : Nat} {t : TypeId} {w w' : World} (hb : Below w.heap.size w w') (hx : x.at_ w) (h : Blk w' g t [.bool x.neg, .slice x.A x.xs.length x.c]) : RawsAt [x] g w' := by
 intro i r hr
 match i, hr with
 | 0, hr =>
  simp at hr; subst hr; exact ⟨h.cell 0, h.cell 1, Raw.at_to hx hb⟩
 | i + 1, hr => simp at hr
theorem all_two (x y : Raw) : [x, y].all Raw.ok = (x.ok && y.ok) := by simp
theorem all_one (x : Raw) : [x].all Raw.ok = x.ok := by simp
theorem and_ok {x y : Raw} (h : (x.ok && y.ok) = true) : x.ok = true ∧ y.ok = true := by simpa using h
set_option maxHeartbeats 1000000 in
set_option maxRecDepth 100000 in
theorem two_add (x y : Raw) (w : World) (hx : x.at_ w) (hy : y.at_ w) :
  Calls Tryz.prog 64 #[x.v, y.v, .func (.func 65) #[] #[]] w (RetZE (opz x y (x.val + y.val)) (ope x y (x.val + y.val)) w) := by
 unfold opz ope; have HV := Hd.mk (fun g W (h : Below w.heap.size w W) (hB : Blk W g 25 [.bool x.neg, .slice x.A x.xs.length x.c, .bool y.neg, .slice y.A y.xs.length y.c]) => valid_calls [x, y] g 2 W (raws_two h hx hy hB) rfl (Nat.le_refl _)); rw [all_two] at HV; by_cases hok : (x.ok && y.ok) = true
 ·obtain ⟨hxo, hyo⟩ := and_ok hok; rw [hok] at HV; have hlx := Raw.ok_len hxo hx.2.1; have hly := Raw.ok_len hyo hy.2.1; have HP := Hd.mk (fun W (hW : Below w.heap.size w W) => wadd_calls x.val y.val x.A x.c y.A y.c W ((Raw.nn hxo hx).to hW) ((Raw.nn hyo hy).to hW) (by omega) (by omega)); rw [← (Raw.num hxo hx.2.1).1, ← (Raw.num hyo hy.2.1).1] at HP; obtain ⟨z, hz⟩ : ∃ z, z = x.val + y.val := ⟨_, rfl⟩; have hzl : ln z.natAbs ≤ 1073741824 := by rw [hz]; exact Nat.le_trans (ln_mono (Int.natAbs_add_le _ _)) (Nat.le_trans (ln_add _ _) (by omega))
  rw [← hz] at HP ⊢; rw [if_pos hok, if_pos hok]; unfold Raw.v at HP ⊢; clear hx hy hz hxo hyo hok hlx hly; obtain ⟨b1, A1, c1, xs⟩ := x; obtain ⟨b2, A2, c2, ys⟩ := y; simp only at HP HV ⊢; obtain ⟨n1, hn1⟩ : ∃ n, n = xs.length := ⟨_, rfl⟩; obtain ⟨n2, hn2⟩ : ∃ n, n = ys.length := ⟨_, rfl⟩; rw [← hn1, ← hn2] at HP HV ⊢; clear hn1 hn2; go_enter Tryz.func64, Tryz.ntmps64
  go_wp2_with fail
  obtain ⟨W0, hW0⟩ : ∃ W : World, W = ((w.alloc (.cells #[.bool b1, .slice A1 n1 c1] 25)).alloc (.cells #[.bool b2, .slice A2 n2 c2] 25)).alloc (.cells #[.bool false, .slice none 0 0] 25) := ⟨_, rfl⟩; rw [← hW0]; have HSZ : Hd (w.heap.size + 1 + 1 + 1 = W0.heap.size) := ⟨by rw [hW0]; simp⟩; obtain ⟨hB0, hB1, hB2, hBW⟩ := boxes3 hW0; have q0 := hB0.c0; have q1 := hB0.c1; have q2 := hB1.c0; have q3 := hB1.c1; have g0 := hB2.c0; have g1 := hB2.c1; have u0 := hB2.f0; have u1 := hB2.f1; have Q0 := Hd.mk hB0; have Q1 := Hd.mk hB1; have QR := Hd.mk hB2; have HW := Hd.mk hBW; have HB : Hd (Below W0.heap.size W0 W0) := ⟨Below.refl _ _⟩; clear hB0 hB1 hB2 hBW hW0; refine (HV.out _ _ (bel_then HW.out (by repeat (first | exact HB.out | exact Below.refl _ _ | refine below_alloc ?_ _ | refine below_drewN ?_ _ | refine below_drew ?_ | refine below_set ?_ (by first | exact Nat.le_refl _ | omega | (simp; done) | (simp; omega)) _))) (blk_new HSZ.out _ _)).mono ?_; rintro e w1 ⟨rfl, hb1⟩; have HB' : Hd (Below W0.heap.size W0 _) := ⟨bel_then (by repeat (first | exact HB.out | exact Below.refl _ _ | refine below_alloc ?_ _ | refine below_drewN ?_ _ | refine below_drew ?_ | refine below_set ?_ (by first | exact Nat.le_refl _ | omega | (simp; done) | (simp; omega)) _)) hb1⟩; clear HB; have HB := HB'; clear HB' hb1; replace q0 := (Q0.out.to HB.out).c0; replace q1 := (Q0.out.to HB.out).c1; replace q2 := (Q1.out.to HB.out).c0; replace q3 := (Q1.out.to HB.out).c1; replace g0 := (QR.out.to HB.out).c0; replace g1 := (QR.out.to HB.out).c1; replace u0 := (QR.out.to HB.out).f0; replace u1 := (QR.out.to HB.out).f1; go_wp2_with fail
  go_region_held3 (fun w' => w'.cell? ⟨w.heap.size, 0, none⟩ = some (.bool b1) ∧ w'.cell? ⟨w.heap.size, 1, none⟩ = some (.slice A1 n1 c1) ∧ w'.cell? ⟨w.heap.size + 1, 0, none⟩ = some (.bool b2) ∧ w'.cell? ⟨w.heap.size + 1, 1, none⟩ = some (.slice A2 n2 c2)) (first | exact ⟨q0, q1, q2, q3⟩ | (repeat' apply And.intro) <;> (first | exact q0 | exact q1 | exact q2 | exact q3 | (go_keep; done) | (rw [World.cell?_setCell_far _ _ _ _ (by first | (simp; done) | (simp; omega)), World.cell?_setCell_far _ _ _ _ (by first | (simp; done) | (simp; omega))]; first | exact q0 | exact q1 | exact q2 | exact q3)))
   (first | (go_at_call 59; refine (of_calls _ _ _ _ _).mono ?_; rintro e w3 ⟨rfl, hb3⟩; have HB' : Hd (Below W0.heap.size W0 _) := ⟨bel_then (by repeat (first | exact HB.out | exact Below.refl _ _ | refine below_alloc ?_ _ | refine below_drewN ?_ _ | refine below_drew ?_ | refine below_set ?_ (by first | exact Nat.le_refl _ | omega | (simp; done) | (simp; omega)) _)) hb3⟩; clear HB; have HB := HB'; clear HB' hb3; replace q0 := (Q0.out.to HB.out).c0; replace q1 := (Q0.out.to HB.out).c1; replace q2 := (Q1.out.to HB.out).c0; replace q3 := (Q1.out.to HB.out).c1; replace g0 := (QR.out.to HB.out).c0; replace g1 := (QR.out.to HB.out).c1; replace u0 := (QR.out.to HB.out).f0; replace u1 := (QR.out.to HB.out).f1) | (go_at_call 65; refine (HP.out _ (bel_then HW.out (by repeat (first | exact HB.out | exact Below.refl _ _ | refine below_alloc ?_ _ | refine below_drewN ?_ _ | refine below_drew ?_ | refine below_set ?_ (by first | exact Nat.le_refl _ | omega | (simp; done) | (simp; omega)) _)))).mono ?_; rintro e w4 ⟨A3, c3, rfl, hn3, hb4⟩; have HN3 := Hd.mk hn3; clear hn3; have HB' : Hd (Below W0.heap.size W0 _) := ⟨bel_then (by repeat (first | exact HB.out | exact Below.refl _ _ | refine below_alloc ?_ _ | refine below_drewN ?_ _ | refine below_drew ?_ | refine below_set ?_ (by first | exact Nat.le_refl _ | omega | (simp; done) | (simp; omega)) _)) hb4⟩; clear HB; have HB := HB'; clear HB' hb4; replace q0 := (Q0.out.to HB.out).c0; replace q1 := (Q0.out.to HB.out).c1; replace q2 := (Q1.out.to HB.out).c0; replace q3 := (Q1.out.to HB.out).c1; replace g0 := (QR.out.to HB.out).c0; replace g1 := (QR.out.to HB.out).c1; replace u0 := (QR.out.to HB.out).f0; replace u1 := (QR.out.to HB.out).f1) | (go_at_call 60; refine (fits_calls z A3 c3 _ HN3.out hzl).mono ?_; rintro e w5 ⟨A4, c4, rfl, hn4, hb5⟩; have HN4 := Hd.mk hn4; clear hn4; have HB' : Hd (Below W0.heap.size W0 _) := ⟨bel_then (by repeat (first | exact HB.out | exact Below.refl _ _ | refine below_alloc ?_ _ | refine below_drewN ?_ _ | refine below_drew ?_ | refine below_set ?_ (by first | exact Nat.le_refl _ | omega | (simp; done) | (simp; omega)) _)) hb5⟩; clear HB; have HB := HB'; clear HB' hb5; replace q0 := (Q0.out.to HB.out).c0; replace q1 := (Q0.out.to HB.out).c1; replace q2 := (Q1.out.to HB.out).c0; replace q3 := (Q1.out.to HB.out).c1; replace g0 := (QR.out.to HB.out).c0; replace g1 := (QR.out.to HB.out).c1; replace u0 := (QR.out.to HB.out).f0; replace u1 := (QR.out.to HB.out).f1))
  go_wp2_with fail
  obtain ⟨k0, k1, k2⟩ := two_set g0 g1 (.bool (decide (fitz z < 0))) (.slice A4 (ln (fitz z).natAbs) c4); refine bodyPost_ret (v := .tuple #[.agg #[.bool (decide (fitz z < 0)), .slice A4 (ln (fitz z).natAbs) c4], .int .i64 (fite z)]) (by simp [results, Tryz.results64, go_sem, k0, k1]) rfl ?_; exact ⟨A4, c4, rfl, (HN4.out.set_ g0 (by intro t; simp) _).set_ k2 (by intro t; simp) _, (by repeat (first | exact bel_then HW.out HB.out | refine below_set ?_ (by first | exact Nat.le_refl _ | omega | (simp; done) | (simp; omega)) _ | refine below_alloc ?_ _ | refine below_drewN ?_ _ | refine below_drew ?_))⟩
 have hno : (x.ok && y.ok) = false := by simpa using hok
 rw [hno] at HV; rw [if_neg hok, if_neg hok]; unfold Raw.v; clear hx hy hok hno; obtain ⟨b1, A1, c1, xs⟩ := x; obtain ⟨b2, A2, c2, ys⟩ := y; simp only at HV ⊢; obtain ⟨n1, hn1⟩ : ∃ n, n = xs.length := ⟨_, rfl⟩; obtain ⟨n2, hn2⟩ : ∃ n, n = ys.length := ⟨_, rfl⟩; rw [← hn1, ← hn2] at HV ⊢; clear hn1 hn2; go_enter Tryz.func64, Tryz.ntmps64
 go_wp2_with fail
 obtain ⟨W0, hW0⟩ : ∃ W : World, W = ((w.alloc (.cells #[.bool b1, .slice A1 n1 c1] 25)).alloc (.cells #[.bool b2, .slice A2 n2 c2] 25)).alloc (.cells #[.bool false, .slice none 0 0] 25) := ⟨_, rfl⟩; rw [← hW0]; have HSZ : Hd (w.heap.size + 1 + 1 + 1 = W0.heap.size) := ⟨by rw [hW0]; simp⟩; obtain ⟨hB0, hB1, hB2, hBW⟩ := boxes3 hW0; have q0 := hB0.c0; have q1 := hB0.c1; have q2 := hB1.c0; have q3 := hB1.c1; have g0 := hB2.c0; have g1 := hB2.c1; have u0 := hB2.f0; have u1 := hB2.f1; have Q0 := Hd.mk hB0; have Q1 := Hd.mk hB1; have QR := Hd.mk hB2; have HW := Hd.mk hBW; have HB : Hd (Below W0.heap.size W0 W0) := ⟨Below.refl _ _⟩; clear hB0 hB1 hB2 hBW hW0; refine (HV.out _ _ (bel_then HW.out (by repeat (first | exact HB.out | exact Below.refl _ _ | refine below_alloc ?_ _ | refine below_drewN ?_ _ | refine below_drew ?_ | refine below_set ?_ (by first | exact Nat.le_refl _ | omega | (simp; done) | (simp; omega)) _))) (blk_new HSZ.out _ _)).mono ?_; rintro e w1 ⟨rfl, hb1⟩; have HB' : Hd (Below W0.heap.size W0 _) := ⟨bel_then (by repeat (first | exact HB.out | exact Below.refl _ _ | refine below_alloc ?_ _ | refine below_drewN ?_ _ | refine below_drew ?_ | refine below_set ?_ (by first | exact Nat.le_refl _ | omega | (simp; done) | (simp; omega)) _)) hb1⟩; clear HB; have HB := HB'; clear HB' hb1; replace q0 := (Q0.out.to HB.out).c0; replace q1 := (Q0.out.to HB.out).c1; replace q2 := (Q1.out.to HB.out).c0; replace q3 := (Q1.out.to HB.out).c1; replace g0 := (QR.out.to HB.out).c0; replace g1 := (QR.out.to HB.out).c1; replace u0 := (QR.out.to HB.out).f0; replace u1 := (QR.out.to HB.out).f1; go_wp2_with fail
 obtain ⟨k0, k1, k2⟩ := two_set g0 g1 (.bool false) (.slice none 0 0); refine bodyPost_ret (v := .tuple #[.agg #[.bool false, .slice none 0 0], .int .i64 2]) (by simp [results, Tryz.results64, go_sem, k0, k1]) rfl ?_; exact ⟨none, 0, by rw [show ln (Int.natAbs 0) = 0 from ln_zero]; rfl, NN.nil _ _ _ (by omega), (by repeat (first | exact bel_then HW.out HB.out | refine below_set ?_ (by first | exact Nat.le_refl _ | omega | (simp; done) | (simp; omega)) _ | refine below_alloc ?_ _ | refine below_drewN ?_ _ | refine below_drew ?_))⟩
set_option maxRecDepth 100000 in
theorem Add_calls (x y : Raw) (w : World) (hx : x.at_ w) (hy : y.at_ w) :
  Calls Tryz.prog 27 #[x.v, y.v] w (RetZE (opz x y (x.val + y.val)) (ope x y (x.val + y.val)) w) := by
 have HT := Hd.mk (fun W (hW : Below w.heap.size w W) => two_add x y W (Raw.at_to hx hW) (Raw.at_to hy hW)); obtain ⟨z, hz⟩ : ∃ z, z = opz x y (x.val + y.val) := ⟨_, rfl⟩; obtain ⟨ze, hze⟩ : ∃ z, z = ope x y (x.val + y.val) := ⟨_, rfl⟩; rw [← hz, ← hze] at HT ⊢; clear hz hze hx hy; unfold Raw.v at HT ⊢; obtain ⟨b1, A1, c1, xs⟩ := x; obtain ⟨b2, A2, c2, ys⟩ := y; simp only at HT ⊢; obtain ⟨n1, hn1⟩ : ∃ n, n = xs.length := ⟨_, rfl⟩; obtain ⟨n2, hn2⟩ : ∃ n, n = ys.length := ⟨_, rfl⟩; rw [← hn1, ← hn2] at HT ⊢; clear hn1 hn2; go_enter Tryz.func27, Tryz.ntmps27
 go_wp2_with fail
 obtain ⟨W0, hW0⟩ : ∃ W : World, W = ((w.alloc (.cells #[.bool b1, .slice A1 n1 c1] 25)).alloc (.cells #[.bool b2, .slice A2 n2 c2] 25)).alloc (.cells #[.bool false, .slice none 0 0] 25) := ⟨_, rfl⟩; rw [← hW0]; have HSZ : Hd (w.heap.size + 1 + 1 + 1 = W0.heap.size) := ⟨by rw [hW0]; simp⟩; obtain ⟨hB0, hB1, hB2, hBW⟩ := boxes3 hW0; have q0 := hB0.c0; have q1 := hB0.c1; have q2 := hB1.c0; have q3 := hB1.c1; have g0 := hB2.c0; have g1 := hB2.c1; have u0 := hB2.f0; have u1 := hB2.f1; have Q0 := Hd.mk hB0; have Q1 := Hd.mk hB1; have QR := Hd.mk hB2; have HW := Hd.mk hBW; have HB : Hd (Below W0.heap.size W0 W0) := ⟨Below.refl _ _⟩; clear hB0 hB1 hB2 hBW hW0; refine (HT.out _ HW.out).mono ?_; rintro e w1 ⟨A4, c4, rfl, hn4, hb1⟩; have HN4 := Hd.mk hn4; clear hn4; have HB' : Hd (Below W0.heap.size W0 _) := ⟨bel_then (by repeat (first | exact HB.out | exact Below.refl _ _ | refine below_alloc ?_ _ | refine below_drewN ?_ _ | refine below_drew ?_ | refine below_set ?_ (by first | exact Nat.le_refl _ | omega | (simp; done) | (simp; omega)) _)) hb1⟩; clear HB; have HB := HB'; clear HB' hb1; replace q0 := (Q0.out.to HB.out).c0; replace q1 := (Q0.out.to HB.out).c1; replace q2 := (Q1.out.to HB.out).c0; replace q3 := (Q1.out.to HB.out).c1; replace g0 := (QR.out.to HB.out).c0; replace g1 := (QR.out.to HB.out).c1; replace u0 := (QR.out.to HB.out).f0; replace u1 := (QR.out.to HB.out).f1; go_wp2_with fail
 obtain ⟨k0, k1, k2⟩ := two_set g0 g1 (.bool (decide (z < 0))) (.slice A4 (ln z.natAbs) c4); refine bodyPost_ret (v := .tuple #[.agg #[.bool (decide (z < 0)), .slice A4 (ln z.natAbs) c4], .int .i64 ze]) (by simp [results, Tryz.results27, go_sem, k0, k1]) rfl ?_; exact ⟨A4, c4, rfl, (HN4.out.set_ g0 (by intro t; simp) _).set_ k2 (by intro t; simp) _, (by repeat (first | exact bel_then HW.out HB.out | refine below_set ?_ (by first | exact Nat.le_refl _ | omega | (simp; done) | (simp; omega)) _ | refine below_alloc ?_ _ | refine below_drewN ?_ _ | refine below_drew ?_))⟩
end Go.Proofs.YtddbmckbankmeaaGreat.Ex
namespace Go.Proofs
open Go.Shelf
def Tryz.lays133_ren : Go.Shelf.Ren := ⟨fun | 133 => 119 | 128 => 111 | n => n, fun | 51 => 123 | 3 => 3 | 4 => 4 | 46 => 54 | 5 => 5 | 9 => 9 | n => n, fun | n => n⟩
theorem Tryz.lays133 : Go.Proofs.Lays.n133 Tryz.prog Tryz.lays133_ren := {
  mixed := by kernel_rfl
  f128 := Tryz.func111.trans (congrArg some (by kernel_rfl))
  f133 := Tryz.func119.trans (congrArg some (by kernel_rfl))
  t3 := Tryz.underlying3
  a3 := Tryz.isAgg3
  z3 := Tryz.sizeOf3
  v3 := Tryz.zeroValue3
  t4 := Tryz.underlying4
  a4 := Tryz.isAgg4
  z4 := Tryz.sizeOf4
  v4 := Tryz.zeroValue4
  t5 := Tryz.underlying5
  a5 := Tryz.isAgg5
  z5 := Tryz.sizeOf5
  v5 := Tryz.zeroValue5
  t9 := Tryz.underlying9
  a9 := Tryz.isAgg9
  z9 := Tryz.sizeOf9
  v9 := Tryz.zeroValue9
  t46 := Tryz.underlying54
  a46 := Tryz.isAgg54
  z46 := Tryz.sizeOf54
  v46 := Tryz.zeroValue54
  t51 := Tryz.underlying123
  a51 := Tryz.isAgg123
  z51 := Tryz.sizeOf123
  v51 := Tryz.zeroValue123 }
theorem Tryz.bits_LeadingZeros32 (x : Int) (w : World) (h0 : 0 ≤ x) (h1 : x ≤ 4294967295) :
  Calls Tryz.prog 119 #[.int .u32 x] w fun e w' => e = .returned (.int .i64 (32 - (Lib.bitLen x.toNat : Int))) ∧ w' = w := Any.bits_LeadingZeros32 Tryz.lays133 x w h0 h1
end Go.Proofs
set_option linter.unusedVariables false
namespace Go.Proofs.YtddbmckbankmeaaGreat.Ex
open Go.RowKit
theorem dig_getD (n k : Nat) : (dig n).getD k 0 = n / B ^ k % B := by
 induction k generalizing n with
 | zero =>
  by_cases h : n = 0
  ·subst h; rw [dig_zero]; simp
  rw [dig_pos h]; simp
 | succ k ih =>
  by_cases h : n = 0
  ·subst h; rw [dig_zero]; simp
  rw [dig_pos h]; show (dig (n / B)).getD k 0 = _; rw [ih, Nat.div_div_eq_div_mul, Nat.pow_succ, Nat.mul_comm (B ^ k) B]
theorem dig_take_succ {n k : Nat} (h : k < ln n) : (dig n).take (k + 1) = (dig n).take k ++ [n / B ^ k % 4294967296] := by
 rw [List.take_succ_eq_append_getElem h]; congr 2
 have := dig_getD n k; simp only [List.getD_eq_getElem?_getD, List.getElem?_eq_getElem (show k < (dig n).length from h)] at this; exact this
theorem div_pos_iff {n k : Nat} : 0 < n / B ^ k ↔ k < ln n := by
 constructor
 ·intro h; rcases Nat.lt_or_ge k (ln n) with h1 | h1
  ·exact h1
  have := lt_pow_ln n; have h2 : B ^ ln n ≤ B ^ k := Nat.pow_le_pow_right B_pos h1; rw [Nat.div_eq_of_lt (by omega)] at h; omega
 intro h; exact Nat.div_pos (pow_le_of_ln h) (Nat.pow_pos B_pos)
set_option maxRecDepth 100000 in
theorem natural_calls (n : Nat) (hn : ln n ≤ 2) (w : World) :
  Calls Tryz.prog 50 #[.int .u64 (n : Int)] w (RetN n w) := by
 obtain ⟨i0, hi, hz0, hz1, hz2⟩ := info_parts Tryz.info_word; have HN2 := Hd.mk hn; clear hn; go_enter Tryz.func50, Tryz.ntmps50
 go_wp2
 go_loopw [0, 3] (fun s0 s3 wr => ∃ (v : Value) (k : Nat), v = s3 ∧ k ≤ ln n ∧ s0 = .int .u64 ((n / B ^ k : Nat) : Int) ∧ wr.ownsRow w.heap.size 123 1 v k (cells ((dig n).take k)) ∧ Below w.heap.size w wr) (fun s0 _ _ => (intOf s0).toNat)
 case atStart => exact ⟨_, 0, rfl, Nat.zero_le _, by simp, ⟨rfl, .inl ⟨rfl, rfl⟩⟩, Below.refl _ _⟩
 case round =>
  obtain ⟨v, k, rfl, hk, rfl, hown, hbel⟩ := hrel; have HO := Hd.mk hown; have HB := Hd.mk hbel; clear hown hbel; obtain ⟨q, hq⟩ : ∃ q, q = n / B ^ k := ⟨_, rfl⟩; rw [← hq]
  have hql : q ≤ 18446744073709551615 := by
   have h1 := lt_pow_ln n; have h2 : B ^ ln n ≤ B ^ 2 := Nat.pow_le_pow_right B_pos HN2.out; have h3 : B ^ 2 = 18446744073709551616 := by decide
   have h4 : q ≤ n := by rw [hq]; exact Nat.div_le_self _ _
   omega
  by_cases hlt : k < ln n
  ·have hq0 : 0 < q := by rw [hq]; exact div_pos_iff.2 hlt
   obtain ⟨x, hx⟩ : ∃ x : Nat, x = q % 4294967296 := ⟨_, rfl⟩; have hx' : ((q : Nat) : Int) % 4294967296 = (x : Int) := by rw [hx]; omega
   have hts := dig_take_succ hlt; rw [← hq, ← hx] at hts; have HTS := Hd.mk hts; obtain ⟨q2, hq2⟩ : ∃ q2 : Nat, q2 = q / 4294967296 := ⟨_, rfl⟩; have hq2' : ((q : Nat) : Int) / 4294967296 = (q2 : Int) := by rw [hq2]; omega
   have hq3 : q2 = n / B ^ (k + 1) := by rw [hq2, hq, Nat.div_div_eq_div_mul, Nat.pow_succ]; rfl
   have HQ3 := Hd.mk hq3; have hlt2 : q2 < q := by rw [hq2]; exact Nat.div_lt_self hq0 (by decide)
   clear hx hq2 hq3 hts hq; go_wp2_with (first | (at_builtin; refine wpList_append_any _ rfl (.tmp 8) (.tmp 11) 48 rfl w.heap.size 123 i0 (.int .u32 0) 1 4 Tryz.underlying48 hi hz0 hz1 hz2 rfl (by decide) v k (cells ((dig n).take k)) rfl (HO.out.alloc _) _ (some ⟨wr.heap.size, 0, none⟩) 1 1 (cells [x]) rfl (reads_new _ _ _) (cells_one _) (by have := HN2.out; unfold maxLen; omega) (by have := HN2.out; omega) (by have := HB.out.size; simp; omega) ?_; intro v1 w1 hown1 hg1 hat1))
   rw [← cells_append] at hown1; go_roundw
   case rel => exact ⟨_, k + 1, rfl, by omega, by rw [HQ3.out], by rw [HTS.out]; exact hown1, (below_alloc HB.out _).grown hg1 (by have := HB.out.size; simp; omega) (own_ge HO.out)⟩
   case measure => simp [intOf]; omega
  have hke : k = ln n := by omega
  have hq0 : q = 0 := by
   rcases Nat.eq_zero_or_pos q with h | h
   ·exact h
   rw [hq] at h; exact absurd (div_pos_iff.1 h) hlt
  have hown2 : wr.ownsRow w.heap.size 123 1 v (dig n).length (cells (dig n)) := by
   have := HO.out; rw [hke, List.take_of_length_le (show (dig n).length ≤ ln n from Nat.le_refl _)] at this; exact this
  obtain ⟨A3, c3, hv3, hrn, hc3, hcm⟩ := own_slice hown2; subst hv3; subst hq0; have HR := Hd.mk hrn; clear hrn hown2 hq hke HO; go_wp2
  go_ret
  exact ⟨_, _, rfl, ⟨HR.out, hc3, hcm⟩, HB.out⟩
def nbits (n : Nat) : Nat := if n = 0 then 0 else Nat.log2 n + 1
theorem nbits_le {n k : Nat} : nbits n ≤ k ↔ n < 2 ^ k := by
 unfold nbits; by_cases h : n = 0
 ·subst h; simp [Nat.pow_pos]
 rw [if_neg h, ← Nat.log2_lt h]; omega
theorem nbits_is {n k : Nat} (h1 : n < 2 ^ k) (h2 : 0 < k → 2 ^ (k - 1) ≤ n) : nbits n = k := by
 have a := nbits_le.2 h1; rcases Nat.eq_zero_or_pos k with h | h
 ·omega
 have b : ¬ nbits n ≤ k - 1 := fun hc => by
  have := nbits_le.1 hc; have := h2 h; omega
 omega
theorem nbits_lo {n : Nat} (h : n ≠ 0) : 2 ^ (nbits n - 1) ≤ n := by
 rcases Nat.lt_or_ge n (2 ^ (nbits n - 1)) with h1 | h1
 ·have h2 := nbits_le.2 h1; have h3 : nbits n ≠ 0 := by unfold nbits; rw [if_neg h]; omega
  omega
 exact h1
theorem nbits_hi (n : Nat) : n < 2 ^ nbits n := nbits_le.1 (Nat.le_refl _)
theorem pow_B (k : Nat) : B ^ k = 2 ^ (32 * k) := by rw [Nat.pow_mul]; rfl
theorem bitLen_nbits {x : Nat} (h : x < 4294967296) : Lib.bitLen x = nbits x := by
 by_cases h0 : x = 0
 ·subst h0; decide
 obtain ⟨h1, h2, h3⟩ := Lib.bitLenAux_bounds 64 x (Nat.lt_of_lt_of_le h (by decide)) h0; exact (nbits_is h3 (fun _ => h2)).symm
end Go.Proofs.YtddbmckbankmeaaGreat.Ex
