/- Part 16 of the texts behind this claim. -/
import Derived.Test.YtdfhhceboacdcaaGreatDoorGk6
import Derived.Test.YtdfhhceboacdcaaGreatDoorGk12
import Derived.Test.YtdfhhceboacdcaaGreatDoorGk13
import Derived.Test.YtdfhhceboacdcaaGreatDoorGk14
import Derived.Test.YtdfhhceboacdcaaGreatDoorGk15
set_option linter.unusedVariables false
namespace Go.Proofs.YtdfhhceboacdcaaGreatDoor
open Go.RowKit
theorem ln_1 : ln 1 = 1 := by
 have h1 : ln 1 ≤ 1 := ln_le (by rw [Nat.pow_one]; decide); have h2 : 0 < ln 1 := ln_pos.2 (by decide); omega
set_option maxHeartbeats 1000000 in
set_option maxRecDepth 100000 in
theorem wdiv_calls (x y : Int) (A1 : Option Addr) (c1 : Nat) (A2 : Option Addr) (c2 : Nat) (w : World) (h1 : NN w A1 c1 x.natAbs) (h2 : NN w A2 c2 y.natAbs) (hy : y ≠ 0) (l1 : ln x.natAbs ≤ 268435456) (l2 : ln y.natAbs ≤ 268435456) :
  Calls Tryz.prog 39 #[.agg #[.bool (decide (x < 0)), .slice A1 (ln x.natAbs) c1], .agg #[.bool (decide (y < 0)), .slice A2 (ln y.natAbs) c2]] w (RetZZ (x / y) (x % y) w) := by
 have hn0 : y.natAbs ≠ 0 := by omega
 have H2 := Hd.mk h2; have HD := Hd.mk (fun W (hW : Below w.heap.size w W) => div_calls A1 c1 x.natAbs A2 c2 y.natAbs W (h1.to hW) (h2.to hW) hn0 l1); obtain ⟨e1, e2⟩ := ediv_abs x y hy; have hsg := ediv_sign x y hy; have hrs := emod_sign x y hy; have hlq : ln (x.natAbs / y.natAbs) ≤ 268435456 := Nat.le_trans (ln_mono (Nat.div_le_self _ _)) l1; have hrl : x.natAbs % y.natAbs ≤ y.natAbs := Nat.le_of_lt (Nat.mod_lt _ (by omega)); unfold RetZZ; rw [hrs]; obtain ⟨Q, hQ⟩ : ∃ Q, Q = x.natAbs / y.natAbs := ⟨_, rfl⟩; obtain ⟨R, hR⟩ : ∃ R, R = x.natAbs % y.natAbs := ⟨_, rfl⟩; rw [← hQ] at e1 e2 hlq HD; rw [← hR] at e1 e2 hrl HD; by_cases hx : x < 0 ∧ R ≠ 0
 ·obtain ⟨f1, f2⟩ := e1 hx.1 hx.2; rw [f1] at hsg ⊢; rw [f2]; have hx1 : decide (x < 0) = true := decide_eq_true hx.1; have hlr : decide (ln R = 0) = false := decide_eq_false (fun h => hx.2 (ln_eq_zero.1 h)); have hlrn : ln R ≤ 9223372036854775807 := by have := ln_mono hrl; omega
  rw [hx1] at hsg ⊢; have HA := Hd.mk (fun W A c A' c' (h1 : NN W A c Q) (h2 : NN W A' c' 1) => add_calls A c Q A' c' 1 W h1 h2 (by omega) (by rw [ln_1]; omega)); have HS := Hd.mk (fun W A c (hW : Below w.heap.size w W) (h2 : NN W A c R) => sub_calls A2 c2 y.natAbs A c R W (H2.out.to hW) h2 hrl (by omega)); have hQl : ln (Q + 1) ≤ 9223372036854775807 := by have := ln_add Q 1; have := ln_1; omega
  obtain ⟨b2, hb2⟩ : ∃ b, b = decide (y < 0) := ⟨_, rfl⟩; obtain ⟨b3, hb3⟩ : ∃ b, b = decide (x / y < 0) := ⟨_, rfl⟩; rw [← hb2] at hsg ⊢; rw [← hb3] at hsg ⊢; obtain ⟨M, hM⟩ : ∃ M, M = y.natAbs := ⟨_, rfl⟩; rw [← hM] at HD HS l2 hrl ⊢; obtain ⟨N, hN⟩ : ∃ N, N = x.natAbs := ⟨_, rfl⟩; rw [← hN] at HD l1 ⊢; obtain ⟨qq, hq2⟩ : ∃ q2, q2 = Q + 1 := ⟨_, rfl⟩; rw [← hq2] at hsg hQl HA ⊢; obtain ⟨r2, hr2⟩ : ∃ r2, r2 = M - R := ⟨_, rfl⟩; rw [← hr2] at HS ⊢; obtain ⟨bz, hbz⟩ : ∃ bz, bz = decide (ln qq = 0) := ⟨_, rfl⟩; have HBZ := Hd.mk hbz; rw [← hbz] at hsg; subst hsg; clear hx e1 e2 f1 f2 hQ hR hx1 h1 h2 H2 hb2 hb3 hM hN hrl hq2 hr2 hn0 hy hrs hbz; go_enter Tryz.func39, Tryz.ntmps39
  go_wp2_with fail
  obtain ⟨W0, hW0⟩ : ∃ W : World, W = (((w.alloc (.cells #[.bool true, .slice A1 (ln N) c1] 51)).alloc (.cells #[.bool b2, .slice A2 (ln M) c2] 51)).alloc (.cells #[.bool false, .slice none 0 0] 51)).alloc (.cells #[.bool false, .slice none 0 0] 51) := ⟨_, rfl⟩; rw [← hW0]; have HSZ : Hd (w.heap.size + 1 + 1 + 1 + 1 = W0.heap.size) := ⟨by rw [hW0]; simp⟩; obtain ⟨hB0, hB1, hB2, hB3, hBW⟩ := boxes4 hW0; have q0 := hB0.c0; have q1 := hB0.c1; have q2 := hB1.c0; have q3 := hB1.c1; have g0 := hB2.c0; have g1 := hB2.c1; have u0 := hB2.f0; have u1 := hB2.f1; have p0 := hB3.c0; have p1 := hB3.c1; have v0 := hB3.f0; have v1 := hB3.f1; have Q0 := Hd.mk hB0; have Q1 := Hd.mk hB1; have QR := Hd.mk hB2; have QS := Hd.mk hB3; have HW := Hd.mk hBW; have HB : Hd (Below W0.heap.size W0 W0) := ⟨Below.refl _ _⟩; clear hB0 hB1 hB2 hB3 hBW hW0; refine (HD.out _ (bel_then HW.out (by repeat (first | exact HB.out | exact Below.refl _ _ | refine below_alloc ?_ _ | refine below_drewN ?_ _ | refine below_drew ?_ | refine below_set ?_ (by first | exact Nat.le_refl _ | omega | (simp; done) | (simp; omega)) _)))).mono ?_; rintro e w1 ⟨A3, c3, A4, c4, rfl, hn3, hn4, hb⟩; have HN3 := Hd.mk hn3; have HN4 := Hd.mk hn4; clear hn3 hn4; have HB' : Hd (Below W0.heap.size W0 _) := ⟨bel_then (by repeat (first | exact HB.out | exact Below.refl _ _ | refine below_alloc ?_ _ | refine below_drewN ?_ _ | refine below_drew ?_ | refine below_set ?_ (by first | exact Nat.le_refl _ | omega | (simp; done) | (simp; omega)) _)) hb⟩; clear HB; have HB := HB'; clear HB' hb; replace q0 := (Q0.out.to HB.out).c0; replace q1 := (Q0.out.to HB.out).c1; replace q2 := (Q1.out.to HB.out).c0; replace q3 := (Q1.out.to HB.out).c1; replace g0 := (QR.out.to HB.out).c0; replace g1 := (QR.out.to HB.out).c1; replace u0 := (QR.out.to HB.out).f0; replace u1 := (QR.out.to HB.out).f1; replace p0 := (QS.out.to HB.out).c0; replace p1 := (QS.out.to HB.out).c1; replace v0 := (QS.out.to HB.out).f0; replace v1 := (QS.out.to HB.out).f1; go_wp2_with fail
  refine (zero_calls _ _ _ _ hlrn).mono ?_; rintro e w2 ⟨rfl, rfl⟩; rw [hlr]; go_wp2_with fail
  go_region_held3 (fun w' => w'.cell? ⟨w.heap.size, 0, none⟩ = some (.bool true) ∧ w'.cell? ⟨w.heap.size, 1, none⟩ = some (.slice A1 (ln N) c1) ∧ w'.cell? ⟨w.heap.size + 1, 0, none⟩ = some (.bool b2) ∧ w'.cell? ⟨w.heap.size + 1, 1, none⟩ = some (.slice A2 (ln M) c2)) (first | exact ⟨q0, q1, q2, q3⟩ | (repeat' apply And.intro) <;> (first | exact q0 | exact q1 | exact q2 | exact q3 | (go_keep; done) | (rw [World.cell?_setCell_far _ _ _ _ (by first | (simp; done) | (simp; omega)), World.cell?_setCell_far _ _ _ _ (by first | (simp; done) | (simp; omega))]; first | exact q0 | exact q1 | exact q2 | exact q3)))
   (first | (go_at_call 47; refine (small_calls 1 (by decide) _).mono ?_; rintro e w3 ⟨A5, c5, rfl, hn5, hb⟩; have HN5 := Hd.mk hn5; replace HN3 := Hd.mk (HN3.out.to (bel_then (by repeat (first | exact Below.refl _ _ | refine below_drewN ?_ _ | refine below_drew ?_)) hb)); replace HN4 := Hd.mk (HN4.out.to (bel_then (by repeat (first | exact Below.refl _ _ | refine below_drewN ?_ _ | refine below_drew ?_)) hb)); clear hn5; have HB' : Hd (Below W0.heap.size W0 _) := ⟨bel_then (by repeat (first | exact HB.out | exact Below.refl _ _ | refine below_alloc ?_ _ | refine below_drewN ?_ _ | refine below_drew ?_ | refine below_set ?_ (by first | exact Nat.le_refl _ | omega | (simp; done) | (simp; omega)) _)) hb⟩; clear HB; have HB := HB'; clear HB' hb; replace q0 := (Q0.out.to HB.out).c0; replace q1 := (Q0.out.to HB.out).c1; replace q2 := (Q1.out.to HB.out).c0; replace q3 := (Q1.out.to HB.out).c1; replace g0 := (QR.out.to HB.out).c0; replace g1 := (QR.out.to HB.out).c1; replace u0 := (QR.out.to HB.out).f0; replace u1 := (QR.out.to HB.out).f1; replace p0 := (QS.out.to HB.out).c0; replace p1 := (QS.out.to HB.out).c1; replace v0 := (QS.out.to HB.out).f0; replace v1 := (QS.out.to HB.out).f1) | (go_at_call 46; refine (HA.out _ A3 c3 A5 c5 HN3.out HN5.out).mono ?_; rintro e w4 ⟨A6, c6, rfl, hn6, hb⟩; have HN6 := Hd.mk hn6; replace HN4 := Hd.mk (HN4.out.to (bel_then (by repeat (first | exact Below.refl _ _ | refine below_drewN ?_ _ | refine below_drew ?_)) hb)); clear hn6; have HB' : Hd (Below W0.heap.size W0 _) := ⟨bel_then (by repeat (first | exact HB.out | exact Below.refl _ _ | refine below_alloc ?_ _ | refine below_drewN ?_ _ | refine below_drew ?_ | refine below_set ?_ (by first | exact Nat.le_refl _ | omega | (simp; done) | (simp; omega)) _)) hb⟩; clear HB; have HB := HB'; clear HB' hb; replace q0 := (Q0.out.to HB.out).c0; replace q1 := (Q0.out.to HB.out).c1; replace q2 := (Q1.out.to HB.out).c0; replace q3 := (Q1.out.to HB.out).c1; replace g0 := (QR.out.to HB.out).c0; replace g1 := (QR.out.to HB.out).c1; replace u0 := (QR.out.to HB.out).f0; replace u1 := (QR.out.to HB.out).f1; replace p0 := (QS.out.to HB.out).c0; replace p1 := (QS.out.to HB.out).c1; replace v0 := (QS.out.to HB.out).f0; replace v1 := (QS.out.to HB.out).f1) | (go_at_call 73; refine (HS.out _ A4 c4 (bel_then HW.out (by repeat (first | exact HB.out | exact Below.refl _ _ | refine below_alloc ?_ _ | refine below_drewN ?_ _ | refine below_drew ?_ | refine below_set ?_ (by first | exact Nat.le_refl _ | omega | (simp; done) | (simp; omega)) _))) HN4.out).mono ?_; rintro e w5 ⟨A7, c7, rfl, hn7, hb⟩; have HN7 := Hd.mk hn7; replace HN6 := Hd.mk (HN6.out.to (bel_then (by repeat (first | exact Below.refl _ _ | refine below_drewN ?_ _ | refine below_drew ?_)) hb)); clear hn7; have HB' : Hd (Below W0.heap.size W0 _) := ⟨bel_then (by repeat (first | exact HB.out | exact Below.refl _ _ | refine below_alloc ?_ _ | refine below_drewN ?_ _ | refine below_drew ?_ | refine below_set ?_ (by first | exact Nat.le_refl _ | omega | (simp; done) | (simp; omega)) _)) hb⟩; clear HB; have HB := HB'; clear HB' hb; replace q0 := (Q0.out.to HB.out).c0; replace q1 := (Q0.out.to HB.out).c1; replace q2 := (Q1.out.to HB.out).c0; replace q3 := (Q1.out.to HB.out).c1; replace g0 := (QR.out.to HB.out).c0; replace g1 := (QR.out.to HB.out).c1; replace u0 := (QR.out.to HB.out).f0; replace u1 := (QR.out.to HB.out).f1; replace p0 := (QS.out.to HB.out).c0; replace p1 := (QS.out.to HB.out).c1; replace v0 := (QS.out.to HB.out).f0; replace v1 := (QS.out.to HB.out).f1))
  rcases b2 with _ | _
  ·go_wp2_with fail
   refine (zero_calls _ _ _ _ hQl).mono ?_; rintro e w9 ⟨rfl, rfl⟩; rw [← HBZ.out]; go_wp2_with fail
   obtain ⟨k0, k1, k2, k3, k4, k5, k6⟩ := four_set g0 g1 p0 p1 (show w.heap.size + 1 + 1 ≠ w.heap.size + 1 + 1 + 1 by omega) (.bool (!bz)) (.slice A6 (ln qq) c6) (.bool false) (.slice A7 (ln r2) c7); refine bodyPost_ret (v := .tuple #[.agg #[.bool (!bz), .slice A6 (ln qq) c6], .agg #[.bool false, .slice A7 (ln r2) c7]]) (by simp [results, Tryz.results39, go_sem, k0, k1, k2, k3]) rfl ?_; exact ⟨_, _, _, _, rfl, (((HN6.out.set_ g0 (by intro t; simp) _).set_ k4 (by intro t; simp) _).set_ k5 (by intro t; simp) _).set_ k6 (by intro t; simp) _, (((HN7.out.set_ g0 (by intro t; simp) _).set_ k4 (by intro t; simp) _).set_ k5 (by intro t; simp) _).set_ k6 (by intro t; simp) _, (by repeat (first | exact bel_then HW.out HB.out | refine below_set ?_ (by first | exact Nat.le_refl _ | omega | (simp; done) | (simp; omega)) _ | refine below_alloc ?_ _ | refine below_drewN ?_ _ | refine below_drew ?_))⟩
  go_wp2_with fail
  obtain ⟨k0, k1, k2, k3, k4, k5, k6⟩ := four_set g0 g1 p0 p1 (show w.heap.size + 1 + 1 ≠ w.heap.size + 1 + 1 + 1 by omega) (.bool false) (.slice A6 (ln qq) c6) (.bool false) (.slice A7 (ln r2) c7); refine bodyPost_ret (v := .tuple #[.agg #[.bool false, .slice A6 (ln qq) c6], .agg #[.bool false, .slice A7 (ln r2) c7]]) (by simp [results, Tryz.results39, go_sem, k0, k1, k2, k3]) rfl ?_; exact ⟨_, _, _, _, rfl, (((HN6.out.set_ g0 (by intro t; simp) _).set_ k4 (by intro t; simp) _).set_ k5 (by intro t; simp) _).set_ k6 (by intro t; simp) _, (((HN7.out.set_ g0 (by intro t; simp) _).set_ k4 (by intro t; simp) _).set_ k5 (by intro t; simp) _).set_ k6 (by intro t; simp) _, (by repeat (first | exact bel_then HW.out HB.out | refine below_set ?_ (by first | exact Nat.le_refl _ | omega | (simp; done) | (simp; omega)) _ | refine below_alloc ?_ _ | refine below_drewN ?_ _ | refine below_drew ?_))⟩
 obtain ⟨f1, f2⟩ := e2 hx; rw [f1] at hsg ⊢; rw [f2]; have hlrn : ln R ≤ 9223372036854775807 := by have := ln_mono hrl; omega
 have hQl : ln Q ≤ 9223372036854775807 := by omega
 have hlr : x < 0 → decide (ln R = 0) = true := fun h => decide_eq_true (by
  by_cases h0 : R = 0
  ·rw [h0, ln_zero]
  exact absurd ⟨h, h0⟩ hx)
 obtain ⟨b1, hb1⟩ : ∃ b, b = decide (x < 0) := ⟨_, rfl⟩; have HLR : Hd (b1 = true → decide (ln R = 0) = true) := ⟨fun h => hlr (by rw [h] at hb1; exact of_decide_eq_true hb1.symm)⟩; obtain ⟨b2, hb2⟩ : ∃ b, b = decide (y < 0) := ⟨_, rfl⟩; obtain ⟨b3, hb3⟩ : ∃ b, b = decide (x / y < 0) := ⟨_, rfl⟩; rw [← hb1, ← hb2] at hsg ⊢; rw [← hb3] at hsg ⊢; obtain ⟨M, hM⟩ : ∃ M, M = y.natAbs := ⟨_, rfl⟩; rw [← hM] at HD l2 hrl ⊢; obtain ⟨N, hN⟩ : ∃ N, N = x.natAbs := ⟨_, rfl⟩; rw [← hN] at HD l1 ⊢; obtain ⟨bz, hbz⟩ : ∃ bz, bz = decide (ln Q = 0) := ⟨_, rfl⟩; have HBZ := Hd.mk hbz; rw [← hbz] at hsg; subst hsg; clear hx e1 e2 f1 f2 hQ hR hb1 h1 h2 H2 hb2 hb3 hM hN hrl hn0 hy hrs hbz hlr; go_enter Tryz.func39, Tryz.ntmps39
 go_wp2_with fail
 obtain ⟨W0, hW0⟩ : ∃ W : World, W = (((w.alloc (.cells #[.bool b1, .slice A1 (ln N) c1] 51)).alloc (.cells #[.bool b2, .slice A2 (ln M) c2] 51)).alloc (.cells #[.bool false, .slice none 0 0] 51)).alloc (.cells #[.bool false, .slice none 0 0] 51) := ⟨_, rfl⟩; rw [← hW0]; have HSZ : Hd (w.heap.size + 1 + 1 + 1 + 1 = W0.heap.size) := ⟨by rw [hW0]; simp⟩; obtain ⟨hB0, hB1, hB2, hB3, hBW⟩ := boxes4 hW0; have q0 := hB0.c0; have q1 := hB0.c1; have q2 := hB1.c0; have q3 := hB1.c1; have g0 := hB2.c0; have g1 := hB2.c1; have u0 := hB2.f0; have u1 := hB2.f1; have p0 := hB3.c0; have p1 := hB3.c1; have v0 := hB3.f0; have v1 := hB3.f1; have Q0 := Hd.mk hB0; have Q1 := Hd.mk hB1; have QR := Hd.mk hB2; have QS := Hd.mk hB3; have HW := Hd.mk hBW; have HB : Hd (Below W0.heap.size W0 W0) := ⟨Below.refl _ _⟩; clear hB0 hB1 hB2 hB3 hBW hW0; refine (HD.out _ (bel_then HW.out (by repeat (first | exact HB.out | exact Below.refl _ _ | refine below_alloc ?_ _ | refine below_drewN ?_ _ | refine below_drew ?_ | refine below_set ?_ (by first | exact Nat.le_refl _ | omega | (simp; done) | (simp; omega)) _)))).mono ?_; rintro e w1 ⟨A3, c3, A4, c4, rfl, hn3, hn4, hb⟩; have HN3 := Hd.mk hn3; have HN4 := Hd.mk hn4; clear hn3 hn4; have HB' : Hd (Below W0.heap.size W0 _) := ⟨bel_then (by repeat (first | exact HB.out | exact Below.refl _ _ | refine below_alloc ?_ _ | refine below_drewN ?_ _ | refine below_drew ?_ | refine below_set ?_ (by first | exact Nat.le_refl _ | omega | (simp; done) | (simp; omega)) _)) hb⟩; clear HB; have HB := HB'; clear HB' hb; replace q0 := (Q0.out.to HB.out).c0; replace q1 := (Q0.out.to HB.out).c1; replace q2 := (Q1.out.to HB.out).c0; replace q3 := (Q1.out.to HB.out).c1; replace g0 := (QR.out.to HB.out).c0; replace g1 := (QR.out.to HB.out).c1; replace u0 := (QR.out.to HB.out).f0; replace u1 := (QR.out.to HB.out).f1; replace p0 := (QS.out.to HB.out).c0; replace p1 := (QS.out.to HB.out).c1; replace v0 := (QS.out.to HB.out).f0; replace v1 := (QS.out.to HB.out).f1; rcases b1 with _ | _
 ·rcases b2 with _ | _
  ·go_wp2_with fail
   obtain ⟨k0, k1, k2, k3, k4, k5, k6⟩ := four_set g0 g1 p0 p1 (show w.heap.size + 1 + 1 ≠ w.heap.size + 1 + 1 + 1 by omega) (.bool false) (.slice A3 (ln Q) c3) (.bool false) (.slice A4 (ln R) c4); refine bodyPost_ret (v := .tuple #[.agg #[.bool false, .slice A3 (ln Q) c3], .agg #[.bool false, .slice A4 (ln R) c4]]) (by simp [results, Tryz.results39, go_sem, k0, k1, k2, k3]) rfl ?_; exact ⟨_, _, _, _, rfl, (((HN3.out.set_ g0 (by intro t; simp) _).set_ k4 (by intro t; simp) _).set_ k5 (by intro t; simp) _).set_ k6 (by intro t; simp) _, (((HN4.out.set_ g0 (by intro t; simp) _).set_ k4 (by intro t; simp) _).set_ k5 (by intro t; simp) _).set_ k6 (by intro t; simp) _, (by repeat (first | exact bel_then HW.out HB.out | refine below_set ?_ (by first | exact Nat.le_refl _ | omega | (simp; done) | (simp; omega)) _ | refine below_alloc ?_ _ | refine below_drewN ?_ _ | refine below_drew ?_))⟩
  go_wp2_with fail
  refine (zero_calls _ _ _ _ hQl).mono ?_; rintro e w9 ⟨rfl, rfl⟩; rw [← HBZ.out]; go_wp2_with fail
  obtain ⟨k0, k1, k2, k3, k4, k5, k6⟩ := four_set g0 g1 p0 p1 (show w.heap.size + 1 + 1 ≠ w.heap.size + 1 + 1 + 1 by omega) (.bool (!bz)) (.slice A3 (ln Q) c3) (.bool false) (.slice A4 (ln R) c4); refine bodyPost_ret (v := .tuple #[.agg #[.bool (!bz), .slice A3 (ln Q) c3], .agg #[.bool false, .slice A4 (ln R) c4]]) (by simp [results, Tryz.results39, go_sem, k0, k1, k2, k3]) rfl ?_; exact ⟨_, _, _, _, rfl, (((HN3.out.set_ g0 (by intro t; simp) _).set_ k4 (by intro t; simp) _).set_ k5 (by intro t; simp) _).set_ k6 (by intro t; simp) _, (((HN4.out.set_ g0 (by intro t; simp) _).set_ k4 (by intro t; simp) _).set_ k5 (by intro t; simp) _).set_ k6 (by intro t; simp) _, (by repeat (first | exact bel_then HW.out HB.out | refine below_set ?_ (by first | exact Nat.le_refl _ | omega | (simp; done) | (simp; omega)) _ | refine below_alloc ?_ _ | refine below_drewN ?_ _ | refine below_drew ?_))⟩
 go_wp2_with fail
 refine (zero_calls _ _ _ _ hlrn).mono ?_; rintro e w2 ⟨rfl, rfl⟩; rw [HLR.out (by simp)]; rcases b2 with _ | _
 ·go_wp2_with fail
  refine (zero_calls _ _ _ _ hQl).mono ?_; rintro e w9 ⟨rfl, rfl⟩; rw [← HBZ.out]; go_wp2_with fail
  obtain ⟨k0, k1, k2, k3, k4, k5, k6⟩ := four_set g0 g1 p0 p1 (show w.heap.size + 1 + 1 ≠ w.heap.size + 1 + 1 + 1 by omega) (.bool (!bz)) (.slice A3 (ln Q) c3) (.bool false) (.slice A4 (ln R) c4); refine bodyPost_ret (v := .tuple #[.agg #[.bool (!bz), .slice A3 (ln Q) c3], .agg #[.bool false, .slice A4 (ln R) c4]]) (by simp [results, Tryz.results39, go_sem, k0, k1, k2, k3]) rfl ?_; exact ⟨_, _, _, _, rfl, (((HN3.out.set_ g0 (by intro t; simp) _).set_ k4 (by intro t; simp) _).set_ k5 (by intro t; simp) _).set_ k6 (by intro t; simp) _, (((HN4.out.set_ g0 (by intro t; simp) _).set_ k4 (by intro t; simp) _).set_ k5 (by intro t; simp) _).set_ k6 (by intro t; simp) _, (by repeat (first | exact bel_then HW.out HB.out | refine below_set ?_ (by first | exact Nat.le_refl _ | omega | (simp; done) | (simp; omega)) _ | refine below_alloc ?_ _ | refine below_drewN ?_ _ | refine below_drew ?_))⟩
 go_wp2_with fail
 obtain ⟨k0, k1, k2, k3, k4, k5, k6⟩ := four_set g0 g1 p0 p1 (show w.heap.size + 1 + 1 ≠ w.heap.size + 1 + 1 + 1 by omega) (.bool false) (.slice A3 (ln Q) c3) (.bool false) (.slice A4 (ln R) c4); refine bodyPost_ret (v := .tuple #[.agg #[.bool false, .slice A3 (ln Q) c3], .agg #[.bool false, .slice A4 (ln R) c4]]) (by simp [results, Tryz.results39, go_sem, k0, k1, k2, k3]) rfl ?_; exact ⟨_, _, _, _, rfl, (((HN3.out.set_ g0 (by intro t; simp) _).set_ k4 (by intro t; simp) _).set_ k5 (by intro t; simp) _).set_ k6 (by intro t; simp) _, (((HN4.out.set_ g0 (by intro t; simp) _).set_ k4 (by intro t; simp) _).set_ k5 (by intro t; simp) _).set_ k6 (by intro t; simp) _, (by repeat (first | exact bel_then HW.out HB.out | refine below_set ?_ (by first | exact Nat.le_refl _ | omega | (simp; done) | (simp; omega)) _ | refine below_alloc ?_ _ | refine below_drewN ?_ _ | refine below_drew ?_))⟩
theorem half_digit (n k : Nat) : (dig n).getD k 0 / 2 + (dig n).getD (k + 1) 0 % 2 * 2147483648 = n / 2 / B ^ k % B := by
 rw [dig_getD, dig_getD, Nat.div_div_eq_div_mul n, Nat.mul_comm 2 (B ^ k), ← Nat.div_div_eq_div_mul n, Nat.pow_succ, ← Nat.div_div_eq_div_mul n]; generalize n / B ^ k = m; show m % 4294967296 / 2 + m / 4294967296 % 4294967296 % 2 * 2147483648 = m / 2 % 4294967296; omega
theorem u32_or_sum {a t : Nat} (ha : a < 2147483648) (ht : t < 2) : bits .or .u32 (a : Int) ((t * 2147483648 : Nat) : Int) = ((a + t * 2147483648 : Nat) : Int) := by
 rw [u32_or_nat _ _ (by omega) (by omega)]; congr 1
 have := Nat.two_pow_add_eq_or_of_lt (i := 31) ha t; rw [Nat.or_comm, ← show 2 ^ 31 * t = t * 2147483648 from Nat.mul_comm _ _, ← this]; omega
theorem getD_set_eq (ds : List Nat) (k x : Nat) (h : k < ds.length) : (ds.set k x).getD k 0 = x := by simp [h]
set_option maxHeartbeats 1000000 in
set_option maxRecDepth 100000 in
theorem rhalf_calls (A1 : Option Addr) (c1 n : Nat) (w : World) (h1 : NN w A1 c1 n) (l1 : ln n ≤ 1073741824) :
  Calls Tryz.prog 85 #[.slice A1 (ln n) c1] w (RetN (n / 2) w) := by
 have HX := Hd.mk h1; clear h1; have hmk := fun W => make_words 59 Tryz.underlying59 (ln n : Int) (ln n) (by omega) (by omega) W
 go_enter Tryz.func85, Tryz.ntmps85
 go_wp2
 clear hmk; go_loopw [10] (fun s10 wr => ∃ (k : Nat) (ds : List Nat), k ≤ ln n ∧ s10 = .int .i64 k ∧ ds.length = k ∧ Dg ds ∧ val ds = n / 2 % B ^ k ∧ Blk wr w.heap.size 46 (cells (ds ++ List.replicate (ln n - k) 0)) ∧ Below w.heap.size w wr) (fun s _ => ln n - (intOf s).toNat)
 case atStart => exact ⟨0, [], Nat.zero_le _, rfl, rfl, (fun x hx => by cases hx), by simp [val, Nat.mod_one], heap_alloc_new w _, below_alloc (Below.refl _ _) _⟩
 case round =>
  obtain ⟨k, ds, hk, rfl, hdl, hdd, hval, hblk, hbel⟩ := hrel; have HV := Hd.mk hval; have HK := Hd.mk hblk; have HL := Hd.mk hdl; have HB := Hd.mk hbel; have HDD := Hd.mk hdd; clear hval hblk hdl hbel hdd; by_cases hkl : k < ln n
  ·obtain ⟨a1, rfl, hcell1⟩ := (HX.out.to HB.out).at_ hkl; obtain ⟨x, hx⟩ : ∃ x, x = (dig n).getD k 0 := ⟨_, rfl⟩; have hx1 : x < 4294967296 := by rw [hx]; exact dg_get (dg_dig _) k
   rw [← hx] at hcell1; obtain ⟨y, hy⟩ : ∃ y, y = (dig n).getD (k + 1) 0 := ⟨_, rfl⟩; have hy1 : y < 4294967296 := by rw [hy]; exact dg_get (dg_dig _) _
   have hck := HK.out.at_ (i := k) (by rw [List.length_append, HL.out, List.length_replicate]; omega); have hfz := HK.out.frozen k; have hsd := half_digit n k; rw [← hx, ← hy] at hsd; obtain ⟨x2, hx2⟩ : ∃ x2, x2 = x / 2 := ⟨_, rfl⟩; have hx2l : x2 < 2147483648 := by omega
   have hxe : (x : Int) / 2 = (x2 : Int) := by omega
   rw [← hx2] at hsd; obtain ⟨t, ht⟩ : ∃ t, t = y % 2 := ⟨_, rfl⟩; have htl : t < 2 := by omega
   rw [← ht] at hsd; obtain ⟨d, hd⟩ : ∃ d, d = x2 + t * 2147483648 := ⟨_, rfl⟩; have hor := u32_or_sum hx2l htl; rw [← hd] at hsd hor; obtain ⟨tt, htt⟩ : ∃ tt, tt = t * 2147483648 := ⟨_, rfl⟩; have hsh : (y : Int) * 2147483648 % 4294967296 = (tt : Int) := by rw [htt, ht]; omega
   rw [← htt] at hor; have hdB : d < B := by rw [hsd]; exact Nat.mod_lt _ (by decide)
   have hput := HK.out.put k x2
   have hset : (ds ++ List.replicate (ln n - k) 0).set k d = (ds ++ [d]) ++ List.replicate (ln n - (k + 1)) 0 := by
    have := set_next ds (ln n - k) d (by omega); rw [HL.out] at this; rw [this, Nat.sub_add_eq]
   have HS := Hd.mk hset
   have hnew : val (ds ++ [d]) = n / 2 % B ^ (k + 1) := by
    rw [val_snoc, HL.out, HV.out, Nat.mod_pow_succ, hsd]
   have HN := Hd.mk hnew; have HP := Hd.mk hput; have HY := Hd.mk hy.symm; by_cases hk1 : k + 1 < ln n
   ·obtain ⟨a2, ha2, hcell2⟩ := (HX.out.to HB.out).at_ hk1; cases ha2
    rw [← hy] at hcell2; simp only [Addr.add_succ'] at hcell2; have hk1' : (k : Int) + 1 < (ln n : Int) := by omega
    clear hx hy hx2 hd hsd hput hset hnew ht htt; go_wp2_with fail
    refine wp_still_tail 12 (by kernel_rfl) (by kernel_rfl) (fun w2 hw2 => ?_); simp only [List.take_succ_cons, List.take_zero, List.drop_succ_cons, List.drop_zero]; have HP3 : Hd (Blk w2 w.heap.size 46 (cells ((ds ++ List.replicate (ln n - k) 0).set k x2))) := ⟨by rw [hw2]; exact HP.out⟩; have HB3 : Hd (Below w.heap.size w w2) := ⟨by rw [hw2]; exact below_drew (below_set HB.out (Nat.le_refl _) _)⟩; have k0 := HP3.out.at_ (i := k) (by rw [List.length_set, List.length_append, HL.out, List.length_replicate]; omega); rw [getD_set_eq _ _ _ (by rw [List.length_append, HL.out, List.length_replicate]; omega)] at k0
    have k1 : w2.cell? (a1.add (k + 1)) = some (.int .u32 (y : Int)) := by
     obtain ⟨a3, ha3, hc3⟩ := (HX.out.to HB3.out).at_ hk1; cases ha3
     rw [hc3, HY.out]
    simp only [Addr.add_succ'] at k1; have f0 := HP3.out.frozen k
    have HP4 : Hd (Blk (w2.setCell ⟨w.heap.size, k, none⟩ (.int .u32 ((d : Nat) : Int))) w.heap.size 46 (cells ((ds ++ [d]) ++ List.replicate (ln n - (k + 1)) 0))) := ⟨by
     have := HP3.out.put k d; rw [List.set_set, HS.out] at this
     exact this⟩
    clear hw2 hck hfz hcell1 hcell2; have e9 : IntKind.i64.wrap ((k : Int) + 1) = (k : Int) + 1 := IntWalk.i64_in _ (by omega); have e10 : (0 : Int) ≤ (k : Int) + 1 := by omega
    have e11 : ((k : Int) + 1).toNat = k + 1 := by omega
    repeat (first | still_step)
    refine wpStill_nil ?_; clear e9 e10 e11; go_wp2_with fail
    go_roundw
    case rel => exact ⟨k + 1, ds ++ [d], by omega, by go_num, by rw [List.length_append, HL.out]; rfl, dg_append HDD.out (dg_one hdB), HN.out, HP4.out, below_set HB3.out (Nat.le_refl _) _⟩
    case measure => simp [intOf]; omega
   have hk1' : ¬ (k : Int) + 1 < (ln n : Int) := by omega
   have hxd : x2 = d := by
    have : y = 0 := by rw [hy]; exact getD_zero_of_le (by rw [dig_length]; omega)
    rw [hd, ht, this]; omega
   have HP5 := HP.out; rw [hxd, HS.out] at HP5; have HP6 := Hd.mk HP5; have HN6 := Hd.mk HN.out; clear hx hy hd hsd hput hset hnew ht htt HP HP5 hxe hor hsh; rw [hxd] at hx2; have hxe : (x : Int) / 2 = (d : Int) := by omega
   clear hx2 hxd; go_wp2_with fail
   go_roundw
   case rel => exact ⟨k + 1, ds ++ [d], by omega, by go_num, by rw [List.length_append, HL.out]; rfl, dg_append HDD.out (dg_one hdB), HN6.out, HP6.out, below_set HB.out (Nat.le_refl _) _⟩
   case measure => simp [intOf]; omega
  have hke : k = ln n := by omega
  subst hke
  have hv2 : val ds = n / 2 := by
   rw [HV.out, Nat.mod_eq_of_lt (Nat.lt_of_le_of_lt (Nat.div_le_self _ _) (lt_pow_ln n))]
  have hblk : Blk wr w.heap.size 46 (cells ds) := by
   have := HK.out; rwa [Nat.sub_self, List.replicate_zero, List.append_nil] at this
  have hc := trim_calls (some ⟨w.heap.size, 0, none⟩) (ln n) ds _ hblk.reads HDD.out (by have := HL.out; omega) (by omega); have hrn := hblk.reads.of_take HDD.out; rw [HL.out, hv2] at hc; rw [hv2] at hrn; have hfin : ln (n / 2) ≤ ln n := ln_mono (Nat.div_le_self _ _); have HC := Hd.mk hc; have HRN := Hd.mk hrn; clear hv2 hc hrn hblk; go_wp2_with fail
  refine HC.out.mono ?_; rintro e w' ⟨rfl, rfl⟩; go_wp2_with fail
  go_ret
  exact ⟨_, _, rfl, ⟨HRN.out, hfin, by omega⟩, HB.out⟩
theorem gcd_both {a b : Nat} (ha : a % 2 = 0) (hb : b % 2 = 0) : Nat.gcd a b = Nat.gcd (a / 2) (b / 2) * 2 := by
 have h1 : a = 2 * (a / 2) := by omega
 have h2 : b = 2 * (b / 2) := by omega
 conv => lhs; rw [h1, h2, Nat.gcd_mul_left]
 omega
theorem coprime_two {b : Nat} (hb : b % 2 = 1) : Nat.Coprime 2 b := by
 unfold Nat.Coprime; rw [Nat.gcd_rec, hb]; rfl
theorem gcd_left {a b : Nat} (ha : a % 2 = 0) (hb : b % 2 = 1) : Nat.gcd (a / 2) b = Nat.gcd a b := by
 have h1 : a = 2 * (a / 2) := by omega
 conv => rhs; rw [h1]
 exact (Nat.Coprime.gcd_mul_left_cancel _ (coprime_two hb)).symm
theorem gcd_right {a b : Nat} (ha : a % 2 = 1) (hb : b % 2 = 0) : Nat.gcd a (b / 2) = Nat.gcd a b := by
 rw [Nat.gcd_comm, gcd_left hb ha, Nat.gcd_comm]
theorem gcd_sub {a b : Nat} (h : b ≤ a) : Nat.gcd (a - b) b = Nat.gcd a b := Nat.gcd_sub_self_left h
theorem NN.first {w : World} {A : Option Addr} {c n : Nat} (h : NN w A c n) (h0 : n ≠ 0) : ∃ ad, A = some ad ∧ w.cell? ad = some (.int .u32 ((n % 4294967296 : Nat) : Int)) := by
 obtain ⟨ad, e, hc⟩ := h.at_ (k := 0) (ln_pos.2 (by omega)); refine ⟨ad, e, ?_⟩; rw [show ad.add 0 = ad from by unfold Addr.add; rw [if_pos rfl]] at hc; rw [hc, dig_getD]; simp [B]
theorem and_one {x p : Nat} (hx : x < 4294967296) (h : x % 2 = p) : bits .and .u32 (x : Int) 1 = (p : Int) := by
 have := u32_and_nat x 1 (by omega) (by omega); rw [show ((1 : Nat) : Int) = 1 from rfl] at this; rw [this, Nat.and_one_is_mod, h]
theorem and_one0 {x : Nat} (hx : x < 4294967296) (h : x % 2 = 0) : bits .and .u32 (x : Int) 1 = 0 := and_one hx h
theorem and_one1 {x : Nat} (hx : x < 4294967296) (h : x % 2 = 1) : bits .and .u32 (x : Int) 1 = 1 := and_one hx h
set_option maxHeartbeats 2000000 in
set_option maxRecDepth 100000 in
theorem divisor_calls (A1 : Option Addr) (c1 n : Nat) (A2 : Option Addr) (c2 m : Nat) (w : World) (h1 : NN w A1 c1 n) (h2 : NN w A2 c2 m) (l1 : ln n ≤ 268435456) (l2 : ln m ≤ 268435456) :
  Calls Tryz.prog 64 #[.slice A1 (ln n) c1, .slice A2 (ln m) c2] w (RetN (Nat.gcd n m) w) := by
 by_cases hnm : n = 0 ∨ m = 0
 ·have hg : Nat.gcd n m = n + m := by rcases hnm with rfl | rfl <;> simp
  have hl : ln n = 0 ∨ ln m = 0 := hnm.imp (fun h => by rw [h, ln_zero]) (fun h => by rw [h, ln_zero]); rw [hg]; have HP := Hd.mk (fun W (hW : Below w.heap.size w W) => rplus_calls A1 c1 n A2 c2 m W (h1.to hW) (h2.to hW) (by omega) (by omega)); clear hnm hg h1 h2; obtain ⟨ln1, hln1⟩ : ∃ k, k = ln n := ⟨_, rfl⟩; obtain ⟨ln2, hln2⟩ : ∃ k, k = ln m := ⟨_, rfl⟩; rw [← hln1] at HP hl l1 ⊢; rw [← hln2] at HP hl l2 ⊢; clear hln1 hln2; by_cases ha : ln1 = 0
  ·subst ha; go_enter Tryz.func64, Tryz.ntmps64
   go_wp2_with fail
   refine (HP.out _ (Below.refl _ _)).mono ?_; rintro e w1 ⟨A3, c3, rfl, hn3, hb3⟩; have HN3 := Hd.mk hn3; clear hn3; go_wp2_with fail
   go_ret
   exact ⟨A3, c3, rfl, HN3.out, hb3⟩
  have hb : ln2 = 0 := by omega
  subst hb; have hne : ((ln1 : Int) == 0) = false := by rw [beq_eq_false_iff_ne]; omega
  clear hl; go_enter Tryz.func64, Tryz.ntmps64
  go_wp2_with fail
  refine (HP.out _ (Below.refl _ _)).mono ?_; rintro e w1 ⟨A3, c3, rfl, hn3, hb3⟩; have HN3 := Hd.mk hn3; clear hn3; go_wp2_with fail
  go_ret
  exact ⟨A3, c3, rfl, HN3.out, hb3⟩
 have hn0 : n ≠ 0 := fun h => hnm (.inl h)
 have hm0 : m ≠ 0 := fun h => hnm (.inr h)
 have hne1 : ((ln n : Int) == 0) = false := by rw [beq_eq_false_iff_ne]; have := ln_pos.2 (show 0 < n by omega); omega
 have hne2 : ((ln m : Int) == 0) = false := by rw [beq_eq_false_iff_ne]; have := ln_pos.2 (show 0 < m by omega); omega
 have HX := Hd.mk h1; have HY := Hd.mk h2; have HN0 := Hd.mk hn0; have HM0 := Hd.mk hm0; have hlog : n < 2 ^ (32 * ln n) := by have := lt_pow_ln n; rw [show B = 2 ^ 32 from rfl, ← Nat.pow_mul] at this; exact this
 have HLOG := Hd.mk hlog; clear h1 h2 hnm hn0 hm0 hlog; go_enter Tryz.func64, Tryz.ntmps64
 go_wp2_with fail
 clear hne1 hne2; go_loopg [0, 1, 5] n (fun g s0 s1 s5 wr => ∃ (a b t : Nat) (A : Option Addr) (c : Nat) (A' : Option Addr) (c' : Nat), s0 = .slice A (ln a) c ∧ s1 = .slice A' (ln b) c' ∧ s5 = .int .i64 (t : Int) ∧ NN wr A c a ∧ NN wr A' c' b ∧ a ≠ 0 ∧ b ≠ 0 ∧ a * 2 ^ t = n ∧ b ≤ m ∧ Nat.gcd a b * 2 ^ t = Nat.gcd n m ∧ a ≤ g ∧ Below w.heap.size w wr)
 case atStart => exact ⟨n, m, 0, A1, c1, A2, c2, rfl, rfl, rfl, HX.out, HY.out, HN0.out, HM0.out, by simp, Nat.le_refl _, by simp, Nat.le_refl _, Below.refl _ _⟩
 case round =>
  obtain ⟨a, b, t, A, c, A', c', rfl, rfl, rfl, hna, hnb, ha0, hb0, hat, hbm, hgt, hag, hbel⟩ := hrel; have HA := Hd.mk hna; have HBb := Hd.mk hnb; have HAT := Hd.mk hat; have HGT := Hd.mk hgt; have HB := Hd.mk hbel
  have htl : t ≤ 8589934592 := by
   have h1 : 2 ^ t ≤ n := by rw [← hat]; exact Nat.le_mul_of_pos_left _ (by omega)
   have h2 := Nat.lt_of_le_of_lt h1 HLOG.out; have h3 := (Nat.pow_lt_pow_iff_right (a := 2) (by omega)).1 h2; omega
  have han : a ≤ n := by rw [← hat]; exact Nat.le_mul_of_pos_right _ (Nat.pow_pos (by omega))
  have hla : ln a ≤ 268435456 := Nat.le_trans (ln_mono han) l1; have hlb : ln b ≤ 268435456 := Nat.le_trans (ln_mono hbm) l2; obtain ⟨ad, rfl, hca⟩ := hna.first ha0; obtain ⟨bd, rfl, hcb⟩ := hnb.first hb0; have hla0 : 0 < ln a := ln_pos.2 (by omega); have hlb0 : 0 < ln b := ln_pos.2 (by omega); clear hna hnb hat hgt hbel; have HA0 := Hd.mk ha0; have HB0 := Hd.mk hb0; clear ha0 hb0; obtain ⟨xa, hxa⟩ : ∃ x, x = a % 4294967296 := ⟨_, rfl⟩; obtain ⟨xb, hxb⟩ : ∃ x, x = b % 4294967296 := ⟨_, rfl⟩; rw [← hxa] at hca; rw [← hxb] at hcb; have hxal : xa < 4294967296 := by omega
  have hxbl : xb < 4294967296 := by omega
  by_cases hpa : a % 2 = 0
  ·have hqa : bits .and .u32 (xa : Int) 1 = 0 := and_one0 hxal (by omega); by_cases hpb : b % 2 = 0
   ·have hqb : bits .and .u32 (xb : Int) 1 = 0 := and_one0 hxbl (by omega); have hgb := gcd_both hpa hpb
    have hab : a / 2 * 2 ^ (t + 1) = n := by
     rw [← HAT.out, Nat.pow_succ, Nat.mul_comm (2 ^ t), ← Nat.mul_assoc, show a / 2 * 2 = a from by omega]
    have hgg : Nat.gcd (a / 2) (b / 2) * 2 ^ (t + 1) = Nat.gcd n m := by
     rw [← HGT.out, hgb, Nat.pow_succ, Nat.mul_comm (2 ^ t), ← Nat.mul_assoc]
    have h3 : a / 2 ≠ 0 := by have := HA0.out; omega
    have h4 : b / 2 ≠ 0 := by have := HB0.out; omega
    have H1 := Hd.mk hab; have H2 := Hd.mk hgg; have H3 := Hd.mk h3; have H4 := Hd.mk h4; clear hxa hxb hpa hpb hgb hab hgg h3 h4; go_wp2_with fail
    refine (rhalf_calls (some ad) c a _ HA.out (by omega)).mono ?_; rintro e w1 ⟨A3, c3, rfl, hn3, hb3⟩; have HN3 := Hd.mk hn3; have HB3 := Hd.mk hb3; clear hn3 hb3; go_wp2_with fail
    refine (rhalf_calls (some bd) c' b _ (HBb.out.to HB3.out) (by omega)).mono ?_; rintro e w2 ⟨A4, c4, rfl, hn4, hb4⟩; have HN4 := Hd.mk hn4; have HB4 := Hd.mk hb4; clear hn4 hb4; go_wp2_with fail
    go_roundg (a / 2)
    case measure => have := HA0.out; omega
    case rel => exact ⟨a / 2, b / 2, t + 1, A3, c3, A4, c4, rfl, rfl, by go_num, HN3.out.to HB4.out, HN4.out, H3.out, H4.out, H1.out, by omega, H2.out, Nat.le_refl _, bel_then HB.out (bel_then HB3.out HB4.out)⟩
   have hqb : bits .and .u32 (xb : Int) 1 = 1 := and_one1 hxbl (by omega); have HPB : Hd (a % 2 = 1 ∨ b % 2 = 1) := ⟨.inr (by omega)⟩; clear hxa hxb hpa hpb; go_wp2_with fail
   clear hca hcb hqa hqb; go_loopg [0, 1] (a + b) (fun g s0 s1 wr => ∃ (a' b' : Nat) (A : Option Addr) (c : Nat) (A' : Option Addr) (c' : Nat), s0 = .slice A (ln a') c ∧ s1 = .slice A' (ln b') c' ∧ NN wr A c a' ∧ NN wr A' c' b' ∧ b' ≠ 0 ∧ (a' % 2 = 1 ∨ b' % 2 = 1) ∧ Nat.gcd a' b' = Nat.gcd a b ∧ ln a' ≤ 268435456 ∧ ln b' ≤ 268435456 ∧ a' + b' ≤ g ∧ Below w.heap.size w wr)
   case atStart => exact ⟨a, b, some ad, c, some bd, c', rfl, rfl, HA.out, HBb.out, HB0.out, HPB.out, rfl, hla, hlb, Nat.le_refl _, HB.out⟩
   case round => as_aux_lemma =>
    obtain ⟨x, y, A3, c3, A4, c4, rfl, rfl, hnx, hny, hy0, hpar, hgxy, hlx, hly, hsum, hbel⟩ := hrel; have HX1 := Hd.mk hnx; have HY1 := Hd.mk hny; have HY0 := Hd.mk hy0; have HPAR := Hd.mk hpar; have HGXY := Hd.mk hgxy; have HSUM := Hd.mk hsum; have HB1 := Hd.mk hbel; clear hnx hny hy0 hpar hgxy hsum hbel; obtain ⟨w1, hw1⟩ : ∃ w1 : World, w1 = wr := ⟨_, rfl⟩; rw [← hw1] at HX1 HY1 HB1 ⊢; clear hw1; by_cases hx0 : x = 0
    ·subst hx0; have hyg : y * 2 ^ t = Nat.gcd n m := by rw [← HGT.out, ← HGXY.out, Nat.gcd_zero_left]
     have HYG := Hd.mk hyg; have hl0 : ln 0 = 0 := ln_zero; rw [hl0]; clear hyg hl0 hlx; go_wp2_with fail
     go_loopw [1, 62] (fun s1 s62 wr => ∃ (j : Nat) (A : Option Addr) (c : Nat), j ≤ t ∧ s62 = .int .i64 (j : Int) ∧ s1 = .slice A (ln (y * 2 ^ j)) c ∧ NN wr A c (y * 2 ^ j) ∧ Below w.heap.size w wr) (fun _ s62 _ => t - (intOf s62).toNat)
     case atStart => exact ⟨0, A4, c4, Nat.zero_le _, rfl, by simp, by simpa using HY1.out, HB1.out⟩
     case round =>
      obtain ⟨j, A5, c5, hjt, rfl, rfl, hn5, hbel⟩ := hrel; have HN5 := Hd.mk hn5; have HB5 := Hd.mk hbel; clear hn5 hbel; have hdb : y * 2 ^ j + y * 2 ^ j = y * 2 ^ (j + 1) := by rw [Nat.pow_succ, Nat.mul_comm (2 ^ j), ← Nat.mul_assoc, Nat.mul_comm y 2, Nat.mul_assoc]; omega
      have hlb2 : ln (y * 2 ^ j) ≤ 268435456 := by
       refine Nat.le_trans (ln_mono ?_) l1; have h1 : y * 2 ^ j ≤ y * 2 ^ t := Nat.mul_le_mul_left _ (Nat.pow_le_pow_right (by omega) hjt); have h2 : Nat.gcd n m ≤ n := Nat.gcd_le_left _ (by have := HN0.out; omega); have := HYG.out; omega
      by_cases hlt : j < t
      ·have hlt' : (j : Int) < (t : Int) := by omega
       have HP := Hd.mk (rplus_calls A5 c5 (y * 2 ^ j) A5 c5 (y * 2 ^ j) wr HN5.out HN5.out (by omega) (by omega)); rw [hdb] at HP; clear hdb; go_wp2_with fail
       refine HP.out.mono ?_; rintro e w1 ⟨A6, c6, rfl, hn6, hb6⟩; have HN6 := Hd.mk hn6; clear hn6; go_wp2_with fail
       go_roundw
       case rel => exact ⟨j + 1, A6, c6, by omega, by go_num, rfl, HN6.out, bel_then HB5.out hb6⟩
       case measure => simp [intOf]; omega
      have hje : j = t := by omega
      subst hje; rw [HYG.out] at HN5 ⊢; clear hdb; go_wp2_with fail
      go_ret
      exact ⟨A5, c5, rfl, HN5.out, HB5.out⟩
    have hlx0 : (0 : Int) < (ln x : Int) := by have := ln_pos.2 (show 0 < x by omega); omega
    have hdx : decide (0 < ln x) = true := decide_eq_true (ln_pos.2 (by omega)); have HX0 := Hd.mk hx0; clear hx0; go_wp2_with fail
    go_loopg [0] x (fun g s0 wr => ∃ (x' : Nat) (A : Option Addr) (c : Nat), s0 = .slice A (ln x') c ∧ NN wr A c x' ∧ x' ≠ 0 ∧ (x' % 2 = 1 ∨ y % 2 = 1) ∧ Nat.gcd x' y = Nat.gcd a b ∧ x' ≤ x ∧ x' ≤ g ∧ Below w1.heap.size w1 wr)
    case atStart => exact ⟨x, A3, c3, rfl, HX1.out, HX0.out, HPAR.out, HGXY.out, Nat.le_refl _, Nat.le_refl _, Below.refl _ _⟩
    case round =>
     obtain ⟨x', A5, c5, rfl, hn5, hx0', hpar', hgx', hxx, hxg, hbel⟩ := hrel; obtain ⟨xd, rfl, hcx⟩ := hn5.first hx0'; have hlx1 : 0 < ln x' := ln_pos.2 (by omega); have hlx2 : ln x' ≤ 268435456 := Nat.le_trans (ln_mono hxx) hlx; have HN5 := Hd.mk hn5; have HX5 := Hd.mk hx0'; have HP5 := Hd.mk hpar'; have HG5 := Hd.mk hgx'; have HXX := Hd.mk hxx; have HXG := Hd.mk hxg; have HB5 := Hd.mk hbel; obtain ⟨xa, hxa⟩ : ∃ k, k = x' % 4294967296 := ⟨_, rfl⟩; rw [← hxa] at hcx; have hxal : xa < 4294967296 := by omega
     by_cases hpx : x' % 2 = 0
     ·have hqa : bits .and .u32 (xa : Int) 1 = 0 := and_one0 hxal (by omega); have hg := gcd_left (a := x') (b := y) hpx (by omega); have h0 : x' / 2 ≠ 0 := by omega
      have HG := Hd.mk hg; have H0 := Hd.mk h0; have HQ : Hd (x' / 2 % 2 = 1 ∨ y % 2 = 1) := ⟨.inr (by omega)⟩; clear hn5 hx0' hpar' hgx' hxx hxg hbel hxa hpx hg h0; go_wp2_with fail
      refine (rhalf_calls (some xd) c5 x' _ HN5.out (by omega)).mono ?_; rintro e w3 ⟨A6, c6, rfl, hn6, hb6⟩; have HN6 := Hd.mk hn6; clear hn6 hcx; go_wp2_with fail
      go_roundg (x' / 2)
      case measure => have := HXG.out; have := HX5.out; omega
      case rel => exact ⟨x' / 2, A6, c6, rfl, HN6.out, H0.out, HQ.out, by rw [HG.out]; exact HG5.out, by have := HXX.out; omega, Nat.le_refl _, bel_then HB5.out hb6⟩
     have hqa : bits .and .u32 (xa : Int) 1 = 1 := and_one1 hxal (by omega); have HPX : Hd (x' % 2 = 1) := ⟨by omega⟩; clear hn5 hx0' hpar' hgx' hxx hxg hbel hxa hpx; go_wp2_with fail
     clear hcx hqa; obtain ⟨w3, hw3⟩ : ∃ w3 : World, w3 = wr := ⟨_, rfl⟩; rw [← hw3] at HN5 HB5 ⊢; clear hw3; go_loopg [1] y (fun g s1 wr => ∃ (y' : Nat) (A : Option Addr) (c : Nat), s1 = .slice A (ln y') c ∧ NN wr A c y' ∧ y' ≠ 0 ∧ Nat.gcd x' y' = Nat.gcd a b ∧ y' ≤ y ∧ y' ≤ g ∧ Below w3.heap.size w3 wr)
     case atStart => exact ⟨y, A4, c4, rfl, HY1.out.to HB5.out, HY0.out, HG5.out, Nat.le_refl _, Nat.le_refl _, Below.refl _ _⟩
     case round =>
      obtain ⟨y', A7, c7, rfl, hn7, hy0', hgy', hyy, hyg, hbel⟩ := hrel; obtain ⟨yd, rfl, hcy⟩ := hn7.first hy0'; have hly1 : 0 < ln y' := ln_pos.2 (by omega); have hly2 : ln y' ≤ 268435456 := Nat.le_trans (ln_mono hyy) hly; have HN7 := Hd.mk hn7; have HY7 := Hd.mk hy0'; have HG7 := Hd.mk hgy'; have HYY := Hd.mk hyy; have HYG := Hd.mk hyg; have HB7 := Hd.mk hbel; obtain ⟨ya, hya⟩ : ∃ k, k = y' % 4294967296 := ⟨_, rfl⟩; rw [← hya] at hcy; have hyal : ya < 4294967296 := by omega
      by_cases hpy : y' % 2 = 0
      ·have hqb : bits .and .u32 (ya : Int) 1 = 0 := and_one0 hyal (by omega); have HG := Hd.mk (gcd_right (a := x') (b := y') HPX.out hpy); have H0 : Hd (y' / 2 ≠ 0) := ⟨by omega⟩; clear hn7 hy0' hgy' hyy hyg hbel hya hpy; go_wp2_with fail
       refine (rhalf_calls (some yd) c7 y' _ HN7.out (by omega)).mono ?_; rintro e w4 ⟨A8, c8, rfl, hn8, hb8⟩; have HN8 := Hd.mk hn8; clear hn8 hcy; go_wp2_with fail
       go_roundg (y' / 2)
       case measure => have := HYG.out; have := HY7.out; omega
       case rel => exact ⟨y' / 2, A8, c8, rfl, HN8.out, H0.out, by rw [HG.out]; exact HG7.out, by have := HYY.out; omega, Nat.le_refl _, bel_then HB7.out hb8⟩
      have hqb : bits .and .u32 (ya : Int) 1 = 1 := and_one1 hyal (by omega); have HPY : Hd (y' % 2 = 1) := ⟨by omega⟩; clear hn7 hy0' hgy' hyy hyg hbel hya hpy; go_wp2_with fail
      clear hcy hqb; refine (order_calls (some xd) c5 x' (some yd) c7 y' _ (HN5.out.to HB7.out) HN7.out).mono ?_; rintro e w5 ⟨rfl, q5, rfl⟩; have HNX : Hd (NN (wr.drewN q5) (some xd) c5 x') := ⟨(HN5.out.to HB7.out).to (below_drewN (Below.refl _ _) _)⟩; have HNY : Hd (NN (wr.drewN q5) (some yd) c7 y') := ⟨HN7.out.to (below_drewN (Below.refl _ _) _)⟩; have HBW : Hd (Below w.heap.size w (wr.drewN q5)) := ⟨below_drewN (bel_then (bel_then HB1.out HB5.out) HB7.out) _⟩; by_cases hlt : x' < y'
      ·rw [cmpv_lt hlt]; have hgs := gcd_sub (Nat.le_of_lt hlt); have HGS : Hd (Nat.gcd (y' - x') x' = Nat.gcd a b) := ⟨by rw [hgs, Nat.gcd_comm]; exact HG7.out⟩; have HP := Hd.mk (rless_calls (some yd) c7 y' (some xd) c5 x' _ HNY.out HNX.out (Nat.le_of_lt hlt) (by omega)); have HLT := Hd.mk hlt; have hld : ln (y' - x') ≤ 268435456 := Nat.le_trans (ln_mono (Nat.sub_le _ _)) hly2; clear hgs hlt; go_wp2_with fail
       refine HP.out.mono ?_; rintro e w6 ⟨A9, c9, rfl, hn9, hb9⟩; have HN9 := Hd.mk hn9; clear hn9; go_wp2_with fail
       go_roundg (y' - x' + x')
       case measure => have := HSUM.out; have := HXX.out; have := HYY.out; have := HX5.out; have := HLT.out; omega
       case rel => exact ⟨y' - x', x', A9, c9, some xd, c5, rfl, rfl, HN9.out, HNX.out.to hb9, HX5.out, .inr HPX.out, HGS.out, hld, hlx2, Nat.le_refl _, bel_then HBW.out hb9⟩
      have hge := cmpv_ge hlt; obtain ⟨cv, hcv⟩ : ∃ cv, cv = cmpv x' y' := ⟨_, rfl⟩; rw [← hcv] at hge ⊢; have hgs := gcd_sub (a := x') (b := y') (by omega); have HGS : Hd (Nat.gcd (x' - y') y' = Nat.gcd a b) := ⟨by rw [hgs]; exact HG7.out⟩; have HP := Hd.mk (rless_calls (some xd) c5 x' (some yd) c7 y' _ HNX.out HNY.out (by omega) (by omega)); have HLT := Hd.mk hlt; have hld : ln (x' - y') ≤ 268435456 := Nat.le_trans (ln_mono (Nat.sub_le _ _)) hlx2; clear hgs hlt hcv; go_wp2_with fail
      refine HP.out.mono ?_; rintro e w6 ⟨A9, c9, rfl, hn9, hb9⟩; have HN9 := Hd.mk hn9; clear hn9; go_wp2_with fail
      go_roundg (x' - y' + y')
      case measure => have := HSUM.out; have := HXX.out; have := HYY.out; have := HY7.out; have := HLT.out; omega
      case rel => exact ⟨x' - y', y', A9, c9, some yd, c7, rfl, rfl, HN9.out, HNY.out.to hb9, HY7.out, .inr HPY.out, HGS.out, hld, hly2, Nat.le_refl _, bel_then HBW.out hb9⟩
  have hqa : bits .and .u32 (xa : Int) 1 = 1 := and_one1 hxal (by omega); have HPB : Hd (a % 2 = 1 ∨ b % 2 = 1) := ⟨.inl (by omega)⟩; clear hxa hxb hpa; go_wp2_with fail
  clear hca hcb hqa; go_loopg [0, 1] (a + b) (fun g s0 s1 wr => ∃ (a' b' : Nat) (A : Option Addr) (c : Nat) (A' : Option Addr) (c' : Nat), s0 = .slice A (ln a') c ∧ s1 = .slice A' (ln b') c' ∧ NN wr A c a' ∧ NN wr A' c' b' ∧ b' ≠ 0 ∧ (a' % 2 = 1 ∨ b' % 2 = 1) ∧ Nat.gcd a' b' = Nat.gcd a b ∧ ln a' ≤ 268435456 ∧ ln b' ≤ 268435456 ∧ a' + b' ≤ g ∧ Below w.heap.size w wr)
  case atStart => exact ⟨a, b, some ad, c, some bd, c', rfl, rfl, HA.out, HBb.out, HB0.out, HPB.out, rfl, hla, hlb, Nat.le_refl _, HB.out⟩
  case round => as_aux_lemma =>
   obtain ⟨x, y, A3, c3, A4, c4, rfl, rfl, hnx, hny, hy0, hpar, hgxy, hlx, hly, hsum, hbel⟩ := hrel; have HX1 := Hd.mk hnx; have HY1 := Hd.mk hny; have HY0 := Hd.mk hy0; have HPAR := Hd.mk hpar; have HGXY := Hd.mk hgxy; have HSUM := Hd.mk hsum; have HB1 := Hd.mk hbel; clear hnx hny hy0 hpar hgxy hsum hbel; obtain ⟨w1, hw1⟩ : ∃ w1 : World, w1 = wr := ⟨_, rfl⟩; rw [← hw1] at HX1 HY1 HB1 ⊢; clear hw1; by_cases hx0 : x = 0
   ·subst hx0; have hyg : y * 2 ^ t = Nat.gcd n m := by rw [← HGT.out, ← HGXY.out, Nat.gcd_zero_left]
    have HYG := Hd.mk hyg; have hl0 : ln 0 = 0 := ln_zero; rw [hl0]; clear hyg hl0 hlx; go_wp2_with fail
    go_loopw [1, 62] (fun s1 s62 wr => ∃ (j : Nat) (A : Option Addr) (c : Nat), j ≤ t ∧ s62 = .int .i64 (j : Int) ∧ s1 = .slice A (ln (y * 2 ^ j)) c ∧ NN wr A c (y * 2 ^ j) ∧ Below w.heap.size w wr) (fun _ s62 _ => t - (intOf s62).toNat)
    case atStart => exact ⟨0, A4, c4, Nat.zero_le _, rfl, by simp, by simpa using HY1.out, HB1.out⟩
    case round =>
     obtain ⟨j, A5, c5, hjt, rfl, rfl, hn5, hbel⟩ := hrel; have HN5 := Hd.mk hn5; have HB5 := Hd.mk hbel; clear hn5 hbel; have hdb : y * 2 ^ j + y * 2 ^ j = y * 2 ^ (j + 1) := by rw [Nat.pow_succ, Nat.mul_comm (2 ^ j), ← Nat.mul_assoc, Nat.mul_comm y 2, Nat.mul_assoc]; omega
     have hlb2 : ln (y * 2 ^ j) ≤ 268435456 := by
      refine Nat.le_trans (ln_mono ?_) l1; have h1 : y * 2 ^ j ≤ y * 2 ^ t := Nat.mul_le_mul_left _ (Nat.pow_le_pow_right (by omega) hjt); have h2 : Nat.gcd n m ≤ n := Nat.gcd_le_left _ (by have := HN0.out; omega); have := HYG.out; omega
     by_cases hlt : j < t
     ·have hlt' : (j : Int) < (t : Int) := by omega
      have HP := Hd.mk (rplus_calls A5 c5 (y * 2 ^ j) A5 c5 (y * 2 ^ j) wr HN5.out HN5.out (by omega) (by omega)); rw [hdb] at HP; clear hdb; go_wp2_with fail
      refine HP.out.mono ?_; rintro e w1 ⟨A6, c6, rfl, hn6, hb6⟩; have HN6 := Hd.mk hn6; clear hn6; go_wp2_with fail
      go_roundw
      case rel => exact ⟨j + 1, A6, c6, by omega, by go_num, rfl, HN6.out, bel_then HB5.out hb6⟩
      case measure => simp [intOf]; omega
     have hje : j = t := by omega
     subst hje; rw [HYG.out] at HN5 ⊢; clear hdb; go_wp2_with fail
     go_ret
     exact ⟨A5, c5, rfl, HN5.out, HB5.out⟩
   have hlx0 : (0 : Int) < (ln x : Int) := by have := ln_pos.2 (show 0 < x by omega); omega
   have hdx : decide (0 < ln x) = true := decide_eq_true (ln_pos.2 (by omega)); have HX0 := Hd.mk hx0; clear hx0; go_wp2_with fail
   go_loopg [0] x (fun g s0 wr => ∃ (x' : Nat) (A : Option Addr) (c : Nat), s0 = .slice A (ln x') c ∧ NN wr A c x' ∧ x' ≠ 0 ∧ (x' % 2 = 1 ∨ y % 2 = 1) ∧ Nat.gcd x' y = Nat.gcd a b ∧ x' ≤ x ∧ x' ≤ g ∧ Below w1.heap.size w1 wr)
   case atStart => exact ⟨x, A3, c3, rfl, HX1.out, HX0.out, HPAR.out, HGXY.out, Nat.le_refl _, Nat.le_refl _, Below.refl _ _⟩
   case round =>
    obtain ⟨x', A5, c5, rfl, hn5, hx0', hpar', hgx', hxx, hxg, hbel⟩ := hrel; obtain ⟨xd, rfl, hcx⟩ := hn5.first hx0'; have hlx1 : 0 < ln x' := ln_pos.2 (by omega); have hlx2 : ln x' ≤ 268435456 := Nat.le_trans (ln_mono hxx) hlx; have HN5 := Hd.mk hn5; have HX5 := Hd.mk hx0'; have HP5 := Hd.mk hpar'; have HG5 := Hd.mk hgx'; have HXX := Hd.mk hxx; have HXG := Hd.mk hxg; have HB5 := Hd.mk hbel; obtain ⟨xa, hxa⟩ : ∃ k, k = x' % 4294967296 := ⟨_, rfl⟩; rw [← hxa] at hcx; have hxal : xa < 4294967296 := by omega
    by_cases hpx : x' % 2 = 0
    ·have hqa : bits .and .u32 (xa : Int) 1 = 0 := and_one0 hxal (by omega); have hg := gcd_left (a := x') (b := y) hpx (by omega); have h0 : x' / 2 ≠ 0 := by omega
     have HG := Hd.mk hg; have H0 := Hd.mk h0; have HQ : Hd (x' / 2 % 2 = 1 ∨ y % 2 = 1) := ⟨.inr (by omega)⟩; clear hn5 hx0' hpar' hgx' hxx hxg hbel hxa hpx hg h0; go_wp2_with fail
     refine (rhalf_calls (some xd) c5 x' _ HN5.out (by omega)).mono ?_; rintro e w3 ⟨A6, c6, rfl, hn6, hb6⟩; have HN6 := Hd.mk hn6; clear hn6 hcx; go_wp2_with fail
     go_roundg (x' / 2)
     case measure => have := HXG.out; have := HX5.out; omega
     case rel => exact ⟨x' / 2, A6, c6, rfl, HN6.out, H0.out, HQ.out, by rw [HG.out]; exact HG5.out, by have := HXX.out; omega, Nat.le_refl _, bel_then HB5.out hb6⟩
    have hqa : bits .and .u32 (xa : Int) 1 = 1 := and_one1 hxal (by omega); have HPX : Hd (x' % 2 = 1) := ⟨by omega⟩; clear hn5 hx0' hpar' hgx' hxx hxg hbel hxa hpx; go_wp2_with fail
    clear hcx hqa; obtain ⟨w3, hw3⟩ : ∃ w3 : World, w3 = wr := ⟨_, rfl⟩; rw [← hw3] at HN5 HB5 ⊢; clear hw3; go_loopg [1] y (fun g s1 wr => ∃ (y' : Nat) (A : Option Addr) (c : Nat), s1 = .slice A (ln y') c ∧ NN wr A c y' ∧ y' ≠ 0 ∧ Nat.gcd x' y' = Nat.gcd a b ∧ y' ≤ y ∧ y' ≤ g ∧ Below w3.heap.size w3 wr)
    case atStart => exact ⟨y, A4, c4, rfl, HY1.out.to HB5.out, HY0.out, HG5.out, Nat.le_refl _, Nat.le_refl _, Below.refl _ _⟩
    case round =>
     obtain ⟨y', A7, c7, rfl, hn7, hy0', hgy', hyy, hyg, hbel⟩ := hrel; obtain ⟨yd, rfl, hcy⟩ := hn7.first hy0'; have hly1 : 0 < ln y' := ln_pos.2 (by omega); have hly2 : ln y' ≤ 268435456 := Nat.le_trans (ln_mono hyy) hly; have HN7 := Hd.mk hn7; have HY7 := Hd.mk hy0'; have HG7 := Hd.mk hgy'; have HYY := Hd.mk hyy; have HYG := Hd.mk hyg; have HB7 := Hd.mk hbel; obtain ⟨ya, hya⟩ : ∃ k, k = y' % 4294967296 := ⟨_, rfl⟩; rw [← hya] at hcy; have hyal : ya < 4294967296 := by omega
     by_cases hpy : y' % 2 = 0
     ·have hqb : bits .and .u32 (ya : Int) 1 = 0 := and_one0 hyal (by omega); have HG := Hd.mk (gcd_right (a := x') (b := y') HPX.out hpy); have H0 : Hd (y' / 2 ≠ 0) := ⟨by omega⟩; clear hn7 hy0' hgy' hyy hyg hbel hya hpy; go_wp2_with fail
      refine (rhalf_calls (some yd) c7 y' _ HN7.out (by omega)).mono ?_; rintro e w4 ⟨A8, c8, rfl, hn8, hb8⟩; have HN8 := Hd.mk hn8; clear hn8 hcy; go_wp2_with fail
      go_roundg (y' / 2)
      case measure => have := HYG.out; have := HY7.out; omega
      case rel => exact ⟨y' / 2, A8, c8, rfl, HN8.out, H0.out, by rw [HG.out]; exact HG7.out, by have := HYY.out; omega, Nat.le_refl _, bel_then HB7.out hb8⟩
     have hqb : bits .and .u32 (ya : Int) 1 = 1 := and_one1 hyal (by omega); have HPY : Hd (y' % 2 = 1) := ⟨by omega⟩; clear hn7 hy0' hgy' hyy hyg hbel hya hpy; go_wp2_with fail
     clear hcy hqb; refine (order_calls (some xd) c5 x' (some yd) c7 y' _ (HN5.out.to HB7.out) HN7.out).mono ?_; rintro e w5 ⟨rfl, q5, rfl⟩; have HNX : Hd (NN (wr.drewN q5) (some xd) c5 x') := ⟨(HN5.out.to HB7.out).to (below_drewN (Below.refl _ _) _)⟩; have HNY : Hd (NN (wr.drewN q5) (some yd) c7 y') := ⟨HN7.out.to (below_drewN (Below.refl _ _) _)⟩; have HBW : Hd (Below w.heap.size w (wr.drewN q5)) := ⟨below_drewN (bel_then (bel_then HB1.out HB5.out) HB7.out) _⟩; by_cases hlt : x' < y'
     ·rw [cmpv_lt hlt]; have hgs := gcd_sub (Nat.le_of_lt hlt); have HGS : Hd (Nat.gcd (y' - x') x' = Nat.gcd a b) := ⟨by rw [hgs, Nat.gcd_comm]; exact HG7.out⟩; have HP := Hd.mk (rless_calls (some yd) c7 y' (some xd) c5 x' _ HNY.out HNX.out (Nat.le_of_lt hlt) (by omega)); have HLT := Hd.mk hlt; have hld : ln (y' - x') ≤ 268435456 := Nat.le_trans (ln_mono (Nat.sub_le _ _)) hly2; clear hgs hlt; go_wp2_with fail
      refine HP.out.mono ?_; rintro e w6 ⟨A9, c9, rfl, hn9, hb9⟩; have HN9 := Hd.mk hn9; clear hn9; go_wp2_with fail
      go_roundg (y' - x' + x')
      case measure => have := HSUM.out; have := HXX.out; have := HYY.out; have := HX5.out; have := HLT.out; omega
      case rel => exact ⟨y' - x', x', A9, c9, some xd, c5, rfl, rfl, HN9.out, HNX.out.to hb9, HX5.out, .inr HPX.out, HGS.out, hld, hlx2, Nat.le_refl _, bel_then HBW.out hb9⟩
     have hge := cmpv_ge hlt; obtain ⟨cv, hcv⟩ : ∃ cv, cv = cmpv x' y' := ⟨_, rfl⟩; rw [← hcv] at hge ⊢; have hgs := gcd_sub (a := x') (b := y') (by omega); have HGS : Hd (Nat.gcd (x' - y') y' = Nat.gcd a b) := ⟨by rw [hgs]; exact HG7.out⟩; have HP := Hd.mk (rless_calls (some xd) c5 x' (some yd) c7 y' _ HNX.out HNY.out (by omega) (by omega)); have HLT := Hd.mk hlt; have hld : ln (x' - y') ≤ 268435456 := Nat.le_trans (ln_mono (Nat.sub_le _ _)) hlx2; clear hgs hlt hcv; go_wp2_with fail
     refine HP.out.mono ?_; rintro e w6 ⟨A9, c9, rfl, hn9, hb9⟩; have HN9 := Hd.mk hn9; clear hn9; go_wp2_with fail
     go_roundg (x' - y' + y')
     case measure => have := HSUM.out; have := HXX.out; have := HYY.out; have := HY7.out; have := HLT.out; omega
     case rel => exact ⟨x' - y', y', A9, c9, some yd, c7, rfl, rfl, HN9.out, HNY.out.to hb9, HY7.out, .inr HPY.out, HGS.out, hld, hly2, Nat.le_refl _, bel_then HBW.out hb9⟩
set_option linter.unusedSimpArgs false
set_option maxHeartbeats 1000000 in
set_option maxRecDepth 100000 in
theorem gcd_calls (A1 : Option Addr) (c1 n : Nat) (A2 : Option Addr) (c2 m : Nat) (w : World) (h1 : NN w A1 c1 n) (h2 : NN w A2 c2 m) (l1 : ln n ≤ 268435456) (l2 : ln m ≤ 268435456) :
  Calls Tryz.prog 49 #[.slice A1 (ln n) c1, .slice A2 (ln m) c2] w (RetN (Nat.gcd n m) w) := by
 have HX := Hd.mk h1; have HY := Hd.mk h2; clear h1 h2; go_enter Tryz.func49, Tryz.ntmps49
 go_wp2_with fail
 go_loopg [0, 1] m (fun g s0 s1 wr => ∃ (a b : Nat) (A : Option Addr) (c : Nat) (A' : Option Addr) (c' : Nat), s0 = .slice A (ln a) c ∧ s1 = .slice A' (ln b) c' ∧ NN wr A c a ∧ NN wr A' c' b ∧ Nat.gcd a b = Nat.gcd n m ∧ ln a ≤ 268435456 ∧ ln b ≤ 268435456 ∧ b ≤ g ∧ Below w.heap.size w wr)
 case atStart => exact ⟨n, m, A1, c1, A2, c2, rfl, rfl, HX.out, HY.out, rfl, l1, l2, Nat.le_refl _, Below.refl _ _⟩
 case round =>
  obtain ⟨a, b, A, c, A', c', rfl, rfl, hna, hnb, hg, hla, hlb, hbg, hbel⟩ := hrel; have HA := Hd.mk hna; have HBb := Hd.mk hnb; have HG := Hd.mk hg; have HBG := Hd.mk hbg; have HB := Hd.mk hbel; clear hna hnb hg hbg hbel; go_wp2_with fail
  refine (zero_calls _ _ _ _ (by omega)).mono ?_; rintro e w1 ⟨rfl, rfl⟩; by_cases hb0 : b = 0
  ·have hd : decide (ln b = 0) = true := decide_eq_true (by rw [hb0, ln_zero]); rw [hd]; have he : Nat.gcd n m = a := by rw [← HG.out, hb0, Nat.gcd_zero_right]
   have HE := Hd.mk he; clear hd hb0 he; go_wp2_with fail
   go_ret
   exact ⟨A, c, by rw [HE.out]; rfl, by rw [HE.out]; exact HA.out, HB.out⟩
  have hd : decide (ln b = 0) = false := decide_eq_false (fun h => hb0 (ln_eq_zero.1 h)); rw [hd]; have HD := Hd.mk (div_calls A c a A' c' b wr HA.out HBb.out hb0 hla); have HLT : Hd (a % b < b) := ⟨Nat.mod_lt _ (by omega)⟩; have HGG : Hd (Nat.gcd b (a % b) = Nat.gcd n m) := ⟨by rw [← HG.out, Nat.gcd_comm a b, Nat.gcd_rec b a, Nat.gcd_comm]⟩; have hlr : ln (a % b) ≤ 268435456 := Nat.le_trans (ln_mono (Nat.le_of_lt HLT.out)) hlb; clear hb0 hd; go_wp2_with fail
  refine HD.out.mono ?_; rintro e w1 ⟨A3, c3, A4, c4, rfl, hn3, hn4, hb1⟩; have HN4 := Hd.mk hn4; clear hn3 hn4; go_wp2_with fail
  go_roundg (a % b)
  case measure => have := HLT.out; have := HBG.out; omega
  case rel => exact ⟨b, a % b, A', c', A4, c4, rfl, rfl, HBb.out.to hb1, HN4.out, HGG.out, hlb, hlr, Nat.le_refl _, bel_then HB.out hb1⟩
def zgcd (x y : Int) : Int := (Nat.gcd x.natAbs y.natAbs : Nat)
theorem zgcd_abs (x y : Int) : (zgcd x y).natAbs = Nat.gcd x.natAbs y.natAbs := by unfold zgcd; omega
theorem zgcd_sign (x y : Int) : decide (zgcd x y < 0) = false := decide_eq_false (by unfold zgcd; omega)
theorem zgcd_ln (x y : Int) : ln (zgcd x y).natAbs ≤ max (ln x.natAbs) (ln y.natAbs) := by
 rw [zgcd_abs]; by_cases h : x.natAbs = 0
 ·rw [h, Nat.gcd_zero_left]; omega
 exact Nat.le_trans (ln_mono (Nat.gcd_le_left _ (by omega))) (by omega)
set_option maxRecDepth 100000 in
theorem rCommon_calls (x y : Int) (A1 : Option Addr) (c1 : Nat) (A2 : Option Addr) (c2 : Nat) (w : World) (h1 : NN w A1 c1 x.natAbs) (h2 : NN w A2 c2 y.natAbs) (l1 : ln x.natAbs ≤ 268435456) (l2 : ln y.natAbs ≤ 268435456) :
  Calls Tryz.prog 35 #[.agg #[.bool (decide (x < 0)), .slice A1 (ln x.natAbs) c1], .agg #[.bool (decide (y < 0)), .slice A2 (ln y.natAbs) c2]] w (RetZ (zgcd x y) w) := by
 have HT := Hd.mk (fun W (hW : Below w.heap.size w W) => divisor_calls A1 c1 x.natAbs A2 c2 y.natAbs W (h1.to hW) (h2.to hW) l1 l2); have hgl := zgcd_ln x y; unfold RetZ; rw [zgcd_abs] at hgl; rw [zgcd_sign, zgcd_abs]; clear h1 h2; obtain ⟨b1, hb1⟩ : ∃ b, b = decide (x < 0) := ⟨_, rfl⟩; obtain ⟨b2, hb2⟩ : ∃ b, b = decide (y < 0) := ⟨_, rfl⟩; rw [← hb1, ← hb2]; clear hb1 hb2; obtain ⟨g, hg⟩ : ∃ g, g = Nat.gcd x.natAbs y.natAbs := ⟨_, rfl⟩; rw [← hg] at HT hgl ⊢; obtain ⟨n1, hn1⟩ : ∃ n, n = ln x.natAbs := ⟨_, rfl⟩; obtain ⟨n2, hn2⟩ : ∃ n, n = ln y.natAbs := ⟨_, rfl⟩; rw [← hn1, ← hn2] at HT hgl ⊢; rw [← hn1] at l1; rw [← hn2] at l2; have hgl2 : ln g ≤ 9223372036854775807 := by omega
 clear hg hn1 hn2 hgl; go_enter Tryz.func35, Tryz.ntmps35
 go_wp2_with fail
 obtain ⟨W0, hW0⟩ : ∃ W : World, W = ((w.alloc (.cells #[.bool b1, .slice A1 n1 c1] 61)).alloc (.cells #[.bool b2, .slice A2 n2 c2] 61)).alloc (.cells #[.bool false, .slice none 0 0] 61) := ⟨_, rfl⟩; rw [← hW0]; have HSZ : Hd (w.heap.size + 1 + 1 + 1 = W0.heap.size) := ⟨by rw [hW0]; simp⟩; obtain ⟨hB0, hB1, hB2, hBW⟩ := boxes3 hW0; have q0 := hB0.c0; have q1 := hB0.c1; have q2 := hB1.c0; have q3 := hB1.c1; have g0 := hB2.c0; have g1 := hB2.c1; have u0 := hB2.f0; have u1 := hB2.f1; have Q0 := Hd.mk hB0; have Q1 := Hd.mk hB1; have QR := Hd.mk hB2; have HW := Hd.mk hBW; have HB : Hd (Below W0.heap.size W0 W0) := ⟨Below.refl _ _⟩; clear hB0 hB1 hB2 hBW hW0; refine (HT.out _ (bel_then HW.out (by repeat (first | exact HB.out | exact Below.refl _ _ | refine below_alloc ?_ _ | refine below_drewN ?_ _ | refine below_drew ?_ | refine below_set ?_ (by first | exact Nat.le_refl _ | omega | (simp; done) | (simp; omega)) _)))).mono ?_; rintro e w1 ⟨A3, c3, rfl, hn3, hb1⟩; have HN3 := Hd.mk hn3; clear hn3; have HB' : Hd (Below W0.heap.size W0 _) := ⟨bel_then (by repeat (first | exact HB.out | exact Below.refl _ _ | refine below_alloc ?_ _ | refine below_drewN ?_ _ | refine below_drew ?_ | refine below_set ?_ (by first | exact Nat.le_refl _ | omega | (simp; done) | (simp; omega)) _)) hb1⟩; clear HB; have HB := HB'; clear HB' hb1; replace q0 := (Q0.out.to HB.out).c0; replace q1 := (Q0.out.to HB.out).c1; replace q2 := (Q1.out.to HB.out).c0; replace q3 := (Q1.out.to HB.out).c1; replace g0 := (QR.out.to HB.out).c0; replace g1 := (QR.out.to HB.out).c1; replace u0 := (QR.out.to HB.out).f0; replace u1 := (QR.out.to HB.out).f1; go_wp2_with fail
 refine (signed_calls false false A3 (ln g) c3 _ hgl2 rfl).mono ?_; rintro e w2 ⟨rfl, hb2⟩; have HN := Hd.mk (HN3.out.to hb2); clear HN3; have HB' : Hd (Below W0.heap.size W0 _) := ⟨bel_then (by repeat (first | exact HB.out | exact Below.refl _ _ | refine below_alloc ?_ _ | refine below_drewN ?_ _ | refine below_drew ?_ | refine below_set ?_ (by first | exact Nat.le_refl _ | omega | (simp; done) | (simp; omega)) _)) hb2⟩; clear HB; have HB := HB'; clear HB' hb2; replace q0 := (Q0.out.to HB.out).c0; replace q1 := (Q0.out.to HB.out).c1; replace q2 := (Q1.out.to HB.out).c0; replace q3 := (Q1.out.to HB.out).c1; replace g0 := (QR.out.to HB.out).c0; replace g1 := (QR.out.to HB.out).c1; replace u0 := (QR.out.to HB.out).f0; replace u1 := (QR.out.to HB.out).f1; go_wp2_with fail
 obtain ⟨k0, k1, k2⟩ := two_set g0 g1 (.bool false) (.slice A3 (ln g) c3); refine bodyPost_ret (v := .agg #[.bool false, .slice A3 (ln g) c3]) (by simp [results, Tryz.results35, go_sem, k0, k1]) rfl ?_; exact ⟨A3, c3, rfl, (HN.out.set_ g0 (by intro t; simp) _).set_ k2 (by intro t; simp) _, (by repeat (first | exact bel_then HW.out HB.out | refine below_set ?_ (by first | exact Nat.le_refl _ | omega | (simp; done) | (simp; omega)) _ | refine below_alloc ?_ _ | refine below_drewN ?_ _ | refine below_drew ?_))⟩
end Go.Proofs.YtdfhhceboacdcaaGreatDoor
