/- Part 19 of the texts behind this claim. -/
import Derived.Test.YtddbmckbankmeaaGreatKb9
import Derived.Test.YtddbmckbankmeaaGreatKb14
import Derived.Test.YtddbmckbankmeaaGreatKb15
import Derived.Test.YtddbmckbankmeaaGreatKb16
import Derived.Test.YtddbmckbankmeaaGreatKb17
import Derived.Test.YtddbmckbankmeaaGreatKb18
set_option linter.unusedVariables false
namespace Go.Proofs.YtddbmckbankmeaaGreat.Ex
open Go.RowKit
theorem nn_one (w : World) (t : TypeId) : NN (w.alloc (.cells #[.int .u32 1] t)) (some ⟨w.heap.size, 0, none⟩) 1 1 := by
 have h1 : dig 1 = [1] := by rw [dig_pos (by omega)]; simp [B, dig_zero]
 refine ⟨?_, by unfold ln; rw [h1]; exact Nat.le_refl _, by omega⟩; rw [h1]; exact Blk.reads (ds := [1]) (heap_alloc_new w (.cells #[.int .u32 1] t) : Blk _ _ t (cells [1]))
theorem ln_one_ : ln 1 = 1 := by
 have h1 := ln_word (d := 1) (by omega); have h2 : 0 < ln 1 := ln_pos.2 (by omega); omega
theorem sgn_quo {x y : Int} (hy : y ≠ 0) : ((decide (x < 0) != decide (y < 0)) && decide (0 < ln (x / y).natAbs)) = decide (x / y < 0) := by
 rw [← ediv_sign x y hy]; congr 1
 rw [Bool.eq_iff_iff]; simp; omega
set_option maxHeartbeats 1000000 in
set_option maxRecDepth 100000 in
theorem rOver_calls (x y : Int) (A1 : Option Addr) (c1 : Nat) (A2 : Option Addr) (c2 : Nat) (w : World) (h1 : NN w A1 c1 x.natAbs) (h2 : NN w A2 c2 y.natAbs) (hy : y ≠ 0) (l1 : ln x.natAbs ≤ 268435456) (l2 : ln y.natAbs ≤ 268435456) :
  Calls Tryz.prog 82 #[.agg #[.bool (decide (x < 0)), .slice A1 (ln x.natAbs) c1], .agg #[.bool (decide (y < 0)), .slice A2 (ln y.natAbs) c2]] w (RetZZ (x / y) (x % y) w) := by
 have hn0 : y.natAbs ≠ 0 := by omega
 have H2 := Hd.mk h2; have HD := Hd.mk (fun W (hW : Below w.heap.size w W) => divided_calls A1 c1 x.natAbs A2 c2 y.natAbs W (h1.to hW) (h2.to hW) hn0 l1 l2); obtain ⟨e1, e2⟩ := ediv_abs x y hy; have hsg := sgn_quo (x := x) hy; have hrs := emod_sign x y hy; have hlq : ln (x.natAbs / y.natAbs) ≤ 268435456 := Nat.le_trans (ln_mono (Nat.div_le_self _ _)) l1; have hrl : x.natAbs % y.natAbs ≤ y.natAbs := Nat.le_of_lt (Nat.mod_lt _ (by omega)); unfold RetZZ; rw [hrs]; obtain ⟨Q, hQ⟩ : ∃ Q, Q = x.natAbs / y.natAbs := ⟨_, rfl⟩; obtain ⟨R, hR⟩ : ∃ R, R = x.natAbs % y.natAbs := ⟨_, rfl⟩; rw [← hQ] at e1 e2 hlq HD; rw [← hR] at e1 e2 hrl HD; have hlrn : ln R ≤ 9223372036854775807 := by have := ln_mono hrl; omega
 by_cases hx : x < 0 ∧ R ≠ 0
 ·obtain ⟨f1, f2⟩ := e1 hx.1 hx.2; rw [f1] at hsg ⊢; rw [f2]; have hx1 : decide (x < 0) = true := decide_eq_true hx.1; have hlr : (0 : Int) < (ln R : Int) := by have : 0 < ln R := ln_pos.2 (by omega); omega
  rw [hx1] at hsg ⊢; have HP := Hd.mk (fun W A c A' c' (h1 : NN W A c Q) (h2 : NN W A' c' 1) => rplus_calls A c Q A' c' 1 W h1 h2 (by omega) (by have := ln_word (d := 1) (by omega); omega)); rw [ln_one_] at HP; have HS := Hd.mk (fun W A c (hW : Below w.heap.size w W) (h2 : NN W A c R) => rless_calls A2 c2 y.natAbs A c R W (H2.out.to hW) h2 hrl (by omega)); have hQl : ln (Q + 1) ≤ 9223372036854775807 := by have := ln_add Q 1; have := ln_word (d := 1) (by omega); omega
  obtain ⟨b2, hb2⟩ : ∃ b, b = decide (y < 0) := ⟨_, rfl⟩; obtain ⟨b3, hb3⟩ : ∃ b, b = decide (x / y < 0) := ⟨_, rfl⟩; rw [← hb2] at hsg ⊢; rw [← hb3] at hsg ⊢; obtain ⟨M, hM⟩ : ∃ M, M = y.natAbs := ⟨_, rfl⟩; rw [← hM] at HD HS l2 hrl ⊢; obtain ⟨N, hN⟩ : ∃ N, N = x.natAbs := ⟨_, rfl⟩; rw [← hN] at HD l1 ⊢; obtain ⟨qq, hq2⟩ : ∃ q2, q2 = Q + 1 := ⟨_, rfl⟩; rw [← hq2] at hsg hQl HP ⊢; obtain ⟨r2, hr2⟩ : ∃ r2, r2 = M - R := ⟨_, rfl⟩; have hr2l : ln r2 ≤ 9223372036854775807 := by have := ln_mono (show r2 ≤ M by omega); omega
  rw [← hr2] at HS ⊢; rw [show (true != b2) = !b2 from by cases b2 <;> rfl] at hsg; have HSG := Hd.mk hsg; clear hx e1 e2 f1 f2 hQ hR hx1 h1 h2 H2 hb2 hb3 hM hN hrl hq2 hr2 hn0 hy hrs hsg; go_enter Tryz.func82, Tryz.ntmps82
  go_wp2_with fail
  obtain ⟨W0, hW0⟩ : ∃ W : World, W = (((w.alloc (.cells #[.bool true, .slice A1 (ln N) c1] 50)).alloc (.cells #[.bool b2, .slice A2 (ln M) c2] 50)).alloc (.cells #[.bool false, .slice none 0 0] 50)).alloc (.cells #[.bool false, .slice none 0 0] 50) := ⟨_, rfl⟩; rw [← hW0]; have HSZ : Hd (w.heap.size + 1 + 1 + 1 + 1 = W0.heap.size) := ⟨by rw [hW0]; simp⟩; obtain ⟨hB0, hB1, hB2, hB3, hBW⟩ := boxes4 hW0; have q0 := hB0.c0; have q1 := hB0.c1; have q2 := hB1.c0; have q3 := hB1.c1; have g0 := hB2.c0; have g1 := hB2.c1; have u0 := hB2.f0; have u1 := hB2.f1; have p0 := hB3.c0; have p1 := hB3.c1; have v0 := hB3.f0; have v1 := hB3.f1; have Q0 := Hd.mk hB0; have Q1 := Hd.mk hB1; have QR := Hd.mk hB2; have QS := Hd.mk hB3; have HW := Hd.mk hBW; have HB : Hd (Below W0.heap.size W0 W0) := ⟨Below.refl _ _⟩; clear hB0 hB1 hB2 hB3 hBW hW0; refine (HD.out _ (bel_then HW.out (by repeat (first | exact HB.out | exact Below.refl _ _ | refine below_alloc ?_ _ | refine below_drewN ?_ _ | refine below_drew ?_ | refine below_set ?_ (by first | exact Nat.le_refl _ | omega | (simp; done) | (simp; omega)) _)))).mono ?_; rintro e w1 ⟨A3, c3, A4, c4, rfl, hn3, hn4, hb⟩; have HN3 := Hd.mk hn3; have HN4 := Hd.mk hn4; clear hn3 hn4; have HB' : Hd (Below W0.heap.size W0 _) := ⟨bel_then (by repeat (first | exact HB.out | exact Below.refl _ _ | refine below_alloc ?_ _ | refine below_drewN ?_ _ | refine below_drew ?_ | refine below_set ?_ (by first | exact Nat.le_refl _ | omega | (simp; done) | (simp; omega)) _)) hb⟩; clear HB; have HB := HB'; clear HB' hb; replace q0 := (Q0.out.to HB.out).c0; replace q1 := (Q0.out.to HB.out).c1; replace q2 := (Q1.out.to HB.out).c0; replace q3 := (Q1.out.to HB.out).c1; replace g0 := (QR.out.to HB.out).c0; replace g1 := (QR.out.to HB.out).c1; replace u0 := (QR.out.to HB.out).f0; replace u1 := (QR.out.to HB.out).f1; replace p0 := (QS.out.to HB.out).c0; replace p1 := (QS.out.to HB.out).c1; replace v0 := (QS.out.to HB.out).f0; replace v1 := (QS.out.to HB.out).f1; go_wp2_with fail
  have hb : Below w1.heap.size w1 (w1.alloc (.cells #[.int .u32 1] 123)) := below_alloc (Below.refl _ _) _; refine (HP.out _ _ _ _ _ (HN3.out.to hb) (nn_one w1 _)).mono ?_; rintro e w2 ⟨A5, c5, rfl, hn5, hb2⟩; have HN5 := Hd.mk hn5; replace hb := bel_then hb hb2; replace HN4 := Hd.mk (HN4.out.to hb); clear hn5 hb2 HN3; have HB' : Hd (Below W0.heap.size W0 _) := ⟨bel_then (by repeat (first | exact HB.out | exact Below.refl _ _ | refine below_alloc ?_ _ | refine below_drewN ?_ _ | refine below_drew ?_ | refine below_set ?_ (by first | exact Nat.le_refl _ | omega | (simp; done) | (simp; omega)) _)) hb⟩; clear HB; have HB := HB'; clear HB' hb; replace q0 := (Q0.out.to HB.out).c0; replace q1 := (Q0.out.to HB.out).c1; replace q2 := (Q1.out.to HB.out).c0; replace q3 := (Q1.out.to HB.out).c1; replace g0 := (QR.out.to HB.out).c0; replace g1 := (QR.out.to HB.out).c1; replace u0 := (QR.out.to HB.out).f0; replace u1 := (QR.out.to HB.out).f1; replace p0 := (QS.out.to HB.out).c0; replace p1 := (QS.out.to HB.out).c1; replace v0 := (QS.out.to HB.out).f0; replace v1 := (QS.out.to HB.out).f1; go_wp2_with fail
  refine (HS.out _ _ _ (bel_then HW.out HB.out) HN4.out).mono ?_; rintro e w3 ⟨A6, c6, rfl, hn6, hb⟩; have HN6 := Hd.mk hn6; replace HN5 := Hd.mk (HN5.out.to hb); clear hn6 HN4; have HB' : Hd (Below W0.heap.size W0 _) := ⟨bel_then (by repeat (first | exact HB.out | exact Below.refl _ _ | refine below_alloc ?_ _ | refine below_drewN ?_ _ | refine below_drew ?_ | refine below_set ?_ (by first | exact Nat.le_refl _ | omega | (simp; done) | (simp; omega)) _)) hb⟩; clear HB; have HB := HB'; clear HB' hb; replace q0 := (Q0.out.to HB.out).c0; replace q1 := (Q0.out.to HB.out).c1; replace q2 := (Q1.out.to HB.out).c0; replace q3 := (Q1.out.to HB.out).c1; replace g0 := (QR.out.to HB.out).c0; replace g1 := (QR.out.to HB.out).c1; replace u0 := (QR.out.to HB.out).f0; replace u1 := (QR.out.to HB.out).f1; replace p0 := (QS.out.to HB.out).c0; replace p1 := (QS.out.to HB.out).c1; replace v0 := (QS.out.to HB.out).f0; replace v1 := (QS.out.to HB.out).f1; go_wp2_with fail
  with_reducible refine (signed_calls (!b2) b3 A5 (ln qq) c5 _ hQl HSG.out).mono ?_
  rintro e w4 ⟨rfl, hb⟩; replace HN5 := Hd.mk (HN5.out.to hb); replace HN6 := Hd.mk (HN6.out.to hb); have HB' : Hd (Below W0.heap.size W0 _) := ⟨bel_then (by repeat (first | exact HB.out | exact Below.refl _ _ | refine below_alloc ?_ _ | refine below_drewN ?_ _ | refine below_drew ?_ | refine below_set ?_ (by first | exact Nat.le_refl _ | omega | (simp; done) | (simp; omega)) _)) hb⟩; clear HB; have HB := HB'; clear HB' hb; replace q0 := (Q0.out.to HB.out).c0; replace q1 := (Q0.out.to HB.out).c1; replace q2 := (Q1.out.to HB.out).c0; replace q3 := (Q1.out.to HB.out).c1; replace g0 := (QR.out.to HB.out).c0; replace g1 := (QR.out.to HB.out).c1; replace u0 := (QR.out.to HB.out).f0; replace u1 := (QR.out.to HB.out).f1; replace p0 := (QS.out.to HB.out).c0; replace p1 := (QS.out.to HB.out).c1; replace v0 := (QS.out.to HB.out).f0; replace v1 := (QS.out.to HB.out).f1; go_wp2_with fail
  with_reducible refine (signed_calls false false A6 (ln r2) c6 _ hr2l rfl).mono ?_
  rintro e w5 ⟨rfl, hb⟩; replace HN5 := Hd.mk (HN5.out.to hb); replace HN6 := Hd.mk (HN6.out.to hb); have HB' : Hd (Below W0.heap.size W0 _) := ⟨bel_then (by repeat (first | exact HB.out | exact Below.refl _ _ | refine below_alloc ?_ _ | refine below_drewN ?_ _ | refine below_drew ?_ | refine below_set ?_ (by first | exact Nat.le_refl _ | omega | (simp; done) | (simp; omega)) _)) hb⟩; clear HB; have HB := HB'; clear HB' hb; replace q0 := (Q0.out.to HB.out).c0; replace q1 := (Q0.out.to HB.out).c1; replace q2 := (Q1.out.to HB.out).c0; replace q3 := (Q1.out.to HB.out).c1; replace g0 := (QR.out.to HB.out).c0; replace g1 := (QR.out.to HB.out).c1; replace u0 := (QR.out.to HB.out).f0; replace u1 := (QR.out.to HB.out).f1; replace p0 := (QS.out.to HB.out).c0; replace p1 := (QS.out.to HB.out).c1; replace v0 := (QS.out.to HB.out).f0; replace v1 := (QS.out.to HB.out).f1; go_wp2_with fail
  obtain ⟨k0, k1, k2, k3, k4, k5, k6⟩ := four_set g0 g1 p0 p1 (show w.heap.size + 1 + 1 ≠ w.heap.size + 1 + 1 + 1 by omega) (.bool b3) (.slice A5 (ln qq) c5) (.bool false) (.slice A6 (ln r2) c6); refine bodyPost_ret (v := .tuple #[.agg #[.bool b3, .slice A5 (ln qq) c5], .agg #[.bool false, .slice A6 (ln r2) c6]]) (by simp [results, Tryz.results82, go_sem, k0, k1, k2, k3]) rfl ?_; exact ⟨_, _, _, _, rfl, (((HN5.out.set_ g0 (by intro t; simp) _).set_ k4 (by intro t; simp) _).set_ k5 (by intro t; simp) _).set_ k6 (by intro t; simp) _, (((HN6.out.set_ g0 (by intro t; simp) _).set_ k4 (by intro t; simp) _).set_ k5 (by intro t; simp) _).set_ k6 (by intro t; simp) _, (by repeat (first | exact bel_then HW.out HB.out | refine below_set ?_ (by first | exact Nat.le_refl _ | omega | (simp; done) | (simp; omega)) _ | refine below_alloc ?_ _ | refine below_drewN ?_ _ | refine below_drew ?_))⟩
 obtain ⟨f1, f2⟩ := e2 hx; rw [f1] at hsg ⊢; rw [f2]; have hQl : ln Q ≤ 9223372036854775807 := by omega
 obtain ⟨b1, hb1⟩ : ∃ b, b = decide (x < 0) := ⟨_, rfl⟩
 have hbb : b1 = true → ¬ (0 : Int) < (ln R : Int) := fun h => by
  have h1 : x < 0 := by rw [h] at hb1; exact of_decide_eq_true hb1.symm
  have h2 : R = 0 := by
   by_cases h0 : R = 0
   ·exact h0
   exact absurd ⟨h1, h0⟩ hx
  rw [h2, ln_zero]; omega
 obtain ⟨b2, hb2⟩ : ∃ b, b = decide (y < 0) := ⟨_, rfl⟩; obtain ⟨b3, hb3⟩ : ∃ b, b = decide (x / y < 0) := ⟨_, rfl⟩; rw [← hb1, ← hb2] at hsg ⊢; rw [← hb3] at hsg ⊢; obtain ⟨M, hM⟩ : ∃ M, M = y.natAbs := ⟨_, rfl⟩; rw [← hM] at HD l2 hrl ⊢; obtain ⟨N, hN⟩ : ∃ N, N = x.natAbs := ⟨_, rfl⟩; rw [← hN] at HD l1 ⊢; have HSG := Hd.mk hsg; have HBB := Hd.mk hbb; clear hx e1 e2 f1 f2 hQ hR hb1 h1 h2 H2 hb2 hb3 hM hN hrl hn0 hy hrs hsg hbb; go_enter Tryz.func82, Tryz.ntmps82
 go_wp2_with fail
 obtain ⟨W0, hW0⟩ : ∃ W : World, W = (((w.alloc (.cells #[.bool b1, .slice A1 (ln N) c1] 50)).alloc (.cells #[.bool b2, .slice A2 (ln M) c2] 50)).alloc (.cells #[.bool false, .slice none 0 0] 50)).alloc (.cells #[.bool false, .slice none 0 0] 50) := ⟨_, rfl⟩; rw [← hW0]; have HSZ : Hd (w.heap.size + 1 + 1 + 1 + 1 = W0.heap.size) := ⟨by rw [hW0]; simp⟩; obtain ⟨hB0, hB1, hB2, hB3, hBW⟩ := boxes4 hW0; have q0 := hB0.c0; have q1 := hB0.c1; have q2 := hB1.c0; have q3 := hB1.c1; have g0 := hB2.c0; have g1 := hB2.c1; have u0 := hB2.f0; have u1 := hB2.f1; have p0 := hB3.c0; have p1 := hB3.c1; have v0 := hB3.f0; have v1 := hB3.f1; have Q0 := Hd.mk hB0; have Q1 := Hd.mk hB1; have QR := Hd.mk hB2; have QS := Hd.mk hB3; have HW := Hd.mk hBW; have HB : Hd (Below W0.heap.size W0 W0) := ⟨Below.refl _ _⟩; clear hB0 hB1 hB2 hB3 hBW hW0; refine (HD.out _ (bel_then HW.out (by repeat (first | exact HB.out | exact Below.refl _ _ | refine below_alloc ?_ _ | refine below_drewN ?_ _ | refine below_drew ?_ | refine below_set ?_ (by first | exact Nat.le_refl _ | omega | (simp; done) | (simp; omega)) _)))).mono ?_; rintro e w1 ⟨A3, c3, A4, c4, rfl, hn3, hn4, hb⟩; have HN3 := Hd.mk hn3; have HN4 := Hd.mk hn4; clear hn3 hn4; have HB' : Hd (Below W0.heap.size W0 _) := ⟨bel_then (by repeat (first | exact HB.out | exact Below.refl _ _ | refine below_alloc ?_ _ | refine below_drewN ?_ _ | refine below_drew ?_ | refine below_set ?_ (by first | exact Nat.le_refl _ | omega | (simp; done) | (simp; omega)) _)) hb⟩; clear HB; have HB := HB'; clear HB' hb; replace q0 := (Q0.out.to HB.out).c0; replace q1 := (Q0.out.to HB.out).c1; replace q2 := (Q1.out.to HB.out).c0; replace q3 := (Q1.out.to HB.out).c1; replace g0 := (QR.out.to HB.out).c0; replace g1 := (QR.out.to HB.out).c1; replace u0 := (QR.out.to HB.out).f0; replace u1 := (QR.out.to HB.out).f1; replace p0 := (QS.out.to HB.out).c0; replace p1 := (QS.out.to HB.out).c1; replace v0 := (QS.out.to HB.out).f0; replace v1 := (QS.out.to HB.out).f1; rcases b1 with _ | _
 ·have HS2 : (b2 && decide (0 < ln Q)) = b3 := by have := HSG.out; rwa [show (false != b2) = b2 from by cases b2 <;> rfl] at this
  clear HSG; replace HS2 := Hd.mk HS2; go_wp2_with fail
  with_reducible refine (signed_calls b2 b3 A3 (ln Q) c3 _ hQl HS2.out).mono ?_
  rintro e w4 ⟨rfl, hb⟩; replace HN3 := Hd.mk (HN3.out.to hb); replace HN4 := Hd.mk (HN4.out.to hb); have HB' : Hd (Below W0.heap.size W0 _) := ⟨bel_then (by repeat (first | exact HB.out | exact Below.refl _ _ | refine below_alloc ?_ _ | refine below_drewN ?_ _ | refine below_drew ?_ | refine below_set ?_ (by first | exact Nat.le_refl _ | omega | (simp; done) | (simp; omega)) _)) hb⟩; clear HB; have HB := HB'; clear HB' hb; replace q0 := (Q0.out.to HB.out).c0; replace q1 := (Q0.out.to HB.out).c1; replace q2 := (Q1.out.to HB.out).c0; replace q3 := (Q1.out.to HB.out).c1; replace g0 := (QR.out.to HB.out).c0; replace g1 := (QR.out.to HB.out).c1; replace u0 := (QR.out.to HB.out).f0; replace u1 := (QR.out.to HB.out).f1; replace p0 := (QS.out.to HB.out).c0; replace p1 := (QS.out.to HB.out).c1; replace v0 := (QS.out.to HB.out).f0; replace v1 := (QS.out.to HB.out).f1; go_wp2_with fail
  with_reducible refine (signed_calls false false A4 (ln R) c4 _ hlrn rfl).mono ?_
  rintro e w5 ⟨rfl, hb⟩; replace HN3 := Hd.mk (HN3.out.to hb); replace HN4 := Hd.mk (HN4.out.to hb); have HB' : Hd (Below W0.heap.size W0 _) := ⟨bel_then (by repeat (first | exact HB.out | exact Below.refl _ _ | refine below_alloc ?_ _ | refine below_drewN ?_ _ | refine below_drew ?_ | refine below_set ?_ (by first | exact Nat.le_refl _ | omega | (simp; done) | (simp; omega)) _)) hb⟩; clear HB; have HB := HB'; clear HB' hb; replace q0 := (Q0.out.to HB.out).c0; replace q1 := (Q0.out.to HB.out).c1; replace q2 := (Q1.out.to HB.out).c0; replace q3 := (Q1.out.to HB.out).c1; replace g0 := (QR.out.to HB.out).c0; replace g1 := (QR.out.to HB.out).c1; replace u0 := (QR.out.to HB.out).f0; replace u1 := (QR.out.to HB.out).f1; replace p0 := (QS.out.to HB.out).c0; replace p1 := (QS.out.to HB.out).c1; replace v0 := (QS.out.to HB.out).f0; replace v1 := (QS.out.to HB.out).f1; go_wp2_with fail
  obtain ⟨k0, k1, k2, k3, k4, k5, k6⟩ := four_set g0 g1 p0 p1 (show w.heap.size + 1 + 1 ≠ w.heap.size + 1 + 1 + 1 by omega) (.bool b3) (.slice A3 (ln Q) c3) (.bool false) (.slice A4 (ln R) c4); refine bodyPost_ret (v := .tuple #[.agg #[.bool b3, .slice A3 (ln Q) c3], .agg #[.bool false, .slice A4 (ln R) c4]]) (by simp [results, Tryz.results82, go_sem, k0, k1, k2, k3]) rfl ?_; exact ⟨_, _, _, _, rfl, (((HN3.out.set_ g0 (by intro t; simp) _).set_ k4 (by intro t; simp) _).set_ k5 (by intro t; simp) _).set_ k6 (by intro t; simp) _, (((HN4.out.set_ g0 (by intro t; simp) _).set_ k4 (by intro t; simp) _).set_ k5 (by intro t; simp) _).set_ k6 (by intro t; simp) _, (by repeat (first | exact bel_then HW.out HB.out | refine below_set ?_ (by first | exact Nat.le_refl _ | omega | (simp; done) | (simp; omega)) _ | refine below_alloc ?_ _ | refine below_drewN ?_ _ | refine below_drew ?_))⟩
 have hr0 := HBB.out rfl; have HS2 : (!b2 && decide (0 < ln Q)) = b3 := by have := HSG.out; rwa [show (true != b2) = !b2 from by cases b2 <;> rfl] at this
 clear HSG; replace HS2 := Hd.mk HS2; go_wp2_with fail
 with_reducible refine (signed_calls (!b2) b3 A3 (ln Q) c3 _ hQl HS2.out).mono ?_
 rintro e w4 ⟨rfl, hb⟩; replace HN3 := Hd.mk (HN3.out.to hb); replace HN4 := Hd.mk (HN4.out.to hb); have HB' : Hd (Below W0.heap.size W0 _) := ⟨bel_then (by repeat (first | exact HB.out | exact Below.refl _ _ | refine below_alloc ?_ _ | refine below_drewN ?_ _ | refine below_drew ?_ | refine below_set ?_ (by first | exact Nat.le_refl _ | omega | (simp; done) | (simp; omega)) _)) hb⟩; clear HB; have HB := HB'; clear HB' hb; replace q0 := (Q0.out.to HB.out).c0; replace q1 := (Q0.out.to HB.out).c1; replace q2 := (Q1.out.to HB.out).c0; replace q3 := (Q1.out.to HB.out).c1; replace g0 := (QR.out.to HB.out).c0; replace g1 := (QR.out.to HB.out).c1; replace u0 := (QR.out.to HB.out).f0; replace u1 := (QR.out.to HB.out).f1; replace p0 := (QS.out.to HB.out).c0; replace p1 := (QS.out.to HB.out).c1; replace v0 := (QS.out.to HB.out).f0; replace v1 := (QS.out.to HB.out).f1; go_wp2_with fail
 with_reducible refine (signed_calls false false A4 (ln R) c4 _ hlrn rfl).mono ?_
 rintro e w5 ⟨rfl, hb⟩; replace HN3 := Hd.mk (HN3.out.to hb); replace HN4 := Hd.mk (HN4.out.to hb); have HB' : Hd (Below W0.heap.size W0 _) := ⟨bel_then (by repeat (first | exact HB.out | exact Below.refl _ _ | refine below_alloc ?_ _ | refine below_drewN ?_ _ | refine below_drew ?_ | refine below_set ?_ (by first | exact Nat.le_refl _ | omega | (simp; done) | (simp; omega)) _)) hb⟩; clear HB; have HB := HB'; clear HB' hb; replace q0 := (Q0.out.to HB.out).c0; replace q1 := (Q0.out.to HB.out).c1; replace q2 := (Q1.out.to HB.out).c0; replace q3 := (Q1.out.to HB.out).c1; replace g0 := (QR.out.to HB.out).c0; replace g1 := (QR.out.to HB.out).c1; replace u0 := (QR.out.to HB.out).f0; replace u1 := (QR.out.to HB.out).f1; replace p0 := (QS.out.to HB.out).c0; replace p1 := (QS.out.to HB.out).c1; replace v0 := (QS.out.to HB.out).f0; replace v1 := (QS.out.to HB.out).f1; go_wp2_with fail
 obtain ⟨k0, k1, k2, k3, k4, k5, k6⟩ := four_set g0 g1 p0 p1 (show w.heap.size + 1 + 1 ≠ w.heap.size + 1 + 1 + 1 by omega) (.bool b3) (.slice A3 (ln Q) c3) (.bool false) (.slice A4 (ln R) c4); refine bodyPost_ret (v := .tuple #[.agg #[.bool b3, .slice A3 (ln Q) c3], .agg #[.bool false, .slice A4 (ln R) c4]]) (by simp [results, Tryz.results82, go_sem, k0, k1, k2, k3]) rfl ?_; exact ⟨_, _, _, _, rfl, (((HN3.out.set_ g0 (by intro t; simp) _).set_ k4 (by intro t; simp) _).set_ k5 (by intro t; simp) _).set_ k6 (by intro t; simp) _, (((HN4.out.set_ g0 (by intro t; simp) _).set_ k4 (by intro t; simp) _).set_ k5 (by intro t; simp) _).set_ k6 (by intro t; simp) _, (by repeat (first | exact bel_then HW.out HB.out | refine below_set ?_ (by first | exact Nat.le_refl _ | omega | (simp; done) | (simp; omega)) _ | refine below_alloc ?_ _ | refine below_drewN ?_ _ | refine below_drew ?_))⟩
theorem NN.first {w : World} {A : Option Addr} {c n : Nat} (h : NN w A c n) (h0 : n ≠ 0) : ∃ ad, A = some ad ∧ w.cell? ad = some (.int .u32 ((n % 4294967296 : Nat) : Int)) := by
 obtain ⟨ad, e, hc⟩ := h.at_ (k := 0) (ln_pos.2 (by omega)); refine ⟨ad, e, ?_⟩; rw [show ad.add 0 = ad from by unfold Addr.add; rw [if_pos rfl]] at hc; rw [hc, dig_getD]; simp [B]
set_option linter.unusedSimpArgs false
def zgcd (x y : Int) : Int := (Nat.gcd x.natAbs y.natAbs : Nat)
end Go.Proofs.YtddbmckbankmeaaGreat.Ex
set_option linter.unusedVariables false
namespace Go.Proofs.YtddbmckbankmeaaGreat.Ex
theorem zgcd_eq (p q : Int) : zgcd p q = ((Int.gcd p q : Nat) : Int) := by unfold zgcd; rw [Int.gcd_eq_natAbs_gcd_natAbs]
theorem zgcd_step (a b : Int) : zgcd b (a % b) = zgcd a b := by
 rw [zgcd_eq, zgcd_eq]; congr 1
 have h : a % b = a - (a / b) * b := by have := Int.mul_ediv_add_emod a b; rw [Int.mul_comm] at this; omega
 rw [h, Int.gcd_sub_mul_right_right, Int.gcd_comm]
theorem phi_step {K R0 R1 R2 S0 S1 S2 B : Nat} (hr : R0 = K * R1 + R2) (hs : S2 ≤ S0 + K * S1) (h : S1 * R0 + S0 * R1 ≤ B) : S2 * R1 + S1 * R2 ≤ B := by
 refine Nat.le_trans ?_ h; have h1 := Nat.mul_le_mul_right R1 hs; rw [Nat.add_mul] at h1; rw [hr, Nat.mul_add]; have h2 : K * S1 * R1 = S1 * (K * R1) := by rw [Nat.mul_comm K S1, Nat.mul_assoc]
 omega
theorem abs_step {r0 r1 : Int} (h0 : 0 ≤ r0) (h1 : 0 < r1) : r0.natAbs = (r0 / r1).natAbs * r1.natAbs + (r0 % r1).natAbs := by
 have h2 := Int.mul_ediv_add_emod r0 r1; have h3 : 0 ≤ r0 / r1 := Int.ediv_nonneg h0 (by omega); have h4 := Int.emod_nonneg r0 (show r1 ≠ 0 by omega)
 have h5 : (((r0 / r1).natAbs * r1.natAbs : Nat) : Int) = r1 * (r0 / r1) := by
  rw [Int.natCast_mul, Int.natAbs_of_nonneg h3, Int.natAbs_of_nonneg (by omega), Int.mul_comm]
 omega
structure EV (a0 m a b x y : Int) : Prop where
 d0 : m ∣ x * a0 - a
 d1 : m ∣ y * a0 - b
 g : zgcd a b = zgcd a0 m
 na : 0 ≤ a
 nb : 0 ≤ b
 la : a ≤ m
 lb : b ≤ m
 bx : x.natAbs ≤ m.natAbs
 by_ : y.natAbs ≤ m.natAbs
 ph : y.natAbs * a.natAbs + x.natAbs * b.natAbs ≤ m.natAbs
theorem EV.step {a0 m a b x y : Int} (h : EV a0 m a b x y) (h1 : b ≠ 0) : EV a0 m b (a % b) y (x - a / b * y) := by
 have hm0 := Int.emod_nonneg a h1; have hml : (a % b).natAbs < b.natAbs := by have := Int.emod_lt a h1; omega
 have hb0 := h.nb
 have hd : m ∣ (x - a / b * y) * a0 - a % b := by
  have e : (x - a / b * y) * a0 - a % b = (x * a0 - a) - a / b * (y * a0 - b) := by
   have := Int.mul_ediv_add_emod a b; rw [Int.sub_mul, Int.mul_sub, Int.mul_assoc, Int.mul_comm (a / b) b]; omega
  rw [e]; exact Int.dvd_sub h.d0 (Int.dvd_mul_of_dvd_right h.d1)
 have hph : (x - a / b * y).natAbs * b.natAbs + y.natAbs * (a % b).natAbs ≤ m.natAbs := by
  refine phi_step (K := (a / b).natAbs) (abs_step h.na (by omega)) ?_ h.ph; refine Nat.le_trans (Int.natAbs_sub_le _ _) ?_; rw [Int.natAbs_mul]; exact Nat.le_refl _
 refine ⟨h.d1, hd, by rw [zgcd_step, h.g], hb0, hm0, h.lb, by have := h.lb; omega, h.by_, ?_, hph⟩; have : 1 ≤ b.natAbs := by omega
 have h2 := Nat.mul_le_mul_left (x - a / b * y).natAbs this; omega
end Go.Proofs.YtddbmckbankmeaaGreat.Ex
set_option linter.unusedVariables false
set_option linter.unusedSimpArgs false
namespace Go.Proofs.YtddbmckbankmeaaGreat.Ex
open Go.RowKit
set_option maxHeartbeats 1000000 in
set_option maxRecDepth 100000 in
theorem rExactly_calls (x y : Int) (A1 : Option Addr) (c1 : Nat) (A2 : Option Addr) (c2 : Nat) (w : World) (h1 : NN w A1 c1 x.natAbs) (h2 : NN w A2 c2 y.natAbs) (hy : y ≠ 0) (l1 : ln x.natAbs ≤ 268435456) (l2 : ln y.natAbs ≤ 268435456) :
  Calls Tryz.prog 44 #[.agg #[.bool (decide (x < 0)), .slice A1 (ln x.natAbs) c1], .agg #[.bool (decide (y < 0)), .slice A2 (ln y.natAbs) c2]] w (RetZ (x / y) w) := by
 have HO := Hd.mk (fun W (hW : Below w.heap.size w W) => rOver_calls x y A1 c1 A2 c2 W (h1.to hW) (h2.to hW) hy l1 l2); clear h1 h2 hy; obtain ⟨q, hq⟩ : ∃ q, q = x / y := ⟨_, rfl⟩; obtain ⟨r, hr⟩ : ∃ r, r = x % y := ⟨_, rfl⟩; rw [← hq, ← hr] at HO; rw [← hq]; obtain ⟨b1, hb1⟩ : ∃ b, b = decide (x < 0) := ⟨_, rfl⟩; obtain ⟨b2, hb2⟩ : ∃ b, b = decide (y < 0) := ⟨_, rfl⟩; rw [← hb1, ← hb2] at HO ⊢; obtain ⟨n1, hn1⟩ : ∃ n, n = ln x.natAbs := ⟨_, rfl⟩; obtain ⟨n2, hn2⟩ : ∃ n, n = ln y.natAbs := ⟨_, rfl⟩; rw [← hn1, ← hn2] at HO ⊢; clear hb1 hb2 hn1 hn2 hq hr; go_enter Tryz.func44, Tryz.ntmps44
 go_wp2_with fail
 obtain ⟨W0, hW0⟩ : ∃ W : World, W = ((w.alloc (.cells #[.bool b1, .slice A1 n1 c1] 50)).alloc (.cells #[.bool b2, .slice A2 n2 c2] 50)).alloc (.cells #[.bool false, .slice none 0 0] 50) := ⟨_, rfl⟩; rw [← hW0]; have HSZ : Hd (w.heap.size + 1 + 1 + 1 = W0.heap.size) := ⟨by rw [hW0]; simp⟩; obtain ⟨hB0, hB1, hB2, hBW⟩ := boxes3 hW0; have q0 := hB0.c0; have q1 := hB0.c1; have q2 := hB1.c0; have q3 := hB1.c1; have g0 := hB2.c0; have g1 := hB2.c1; have u0 := hB2.f0; have u1 := hB2.f1; have Q0 := Hd.mk hB0; have Q1 := Hd.mk hB1; have QR := Hd.mk hB2; have HW := Hd.mk hBW; have HB : Hd (Below W0.heap.size W0 W0) := ⟨Below.refl _ _⟩; clear hB0 hB1 hB2 hBW hW0; refine (HO.out _ HW.out).mono ?_; rintro e w1 ⟨A3, c3, A4, c4, rfl, hn3, hn4, hb1⟩; have HN3 := Hd.mk hn3; clear hn3 hn4; have HB' : Hd (Below W0.heap.size W0 _) := ⟨bel_then (by repeat (first | exact HB.out | exact Below.refl _ _ | refine below_alloc ?_ _ | refine below_drewN ?_ _ | refine below_drew ?_ | refine below_set ?_ (by first | exact Nat.le_refl _ | omega | (simp; done) | (simp; omega)) _)) hb1⟩; clear HB; have HB := HB'; clear HB' hb1; replace q0 := (Q0.out.to HB.out).c0; replace q1 := (Q0.out.to HB.out).c1; replace q2 := (Q1.out.to HB.out).c0; replace q3 := (Q1.out.to HB.out).c1; replace g0 := (QR.out.to HB.out).c0; replace g1 := (QR.out.to HB.out).c1; replace u0 := (QR.out.to HB.out).f0; replace u1 := (QR.out.to HB.out).f1; go_upto_region 2 with fail
 obtain ⟨W1, hW1⟩ : ∃ W : World, W = (w1.alloc (.cells #[.bool (decide (q < 0)), .slice A3 (ln q.natAbs) c3] 50)).alloc (.cells #[.bool (decide (r < 0)), .slice A4 (ln r.natAbs) c4] 50) := ⟨_, rfl⟩; rw [← hW1]; obtain ⟨hX, hY, hbw⟩ := boxes2 hW1; replace HN3 := Hd.mk (HN3.out.to hbw); have HB' : Hd (Below W0.heap.size W0 _) := ⟨bel_then (by repeat (first | exact HB.out | exact Below.refl _ _ | refine below_alloc ?_ _ | refine below_drewN ?_ _ | refine below_drew ?_ | refine below_set ?_ (by first | exact Nat.le_refl _ | omega | (simp; done) | (simp; omega)) _)) hbw⟩; clear HB; have HB := HB'; clear HB' hbw; replace q0 := (Q0.out.to HB.out).c0; replace q1 := (Q0.out.to HB.out).c1; replace q2 := (Q1.out.to HB.out).c0; replace q3 := (Q1.out.to HB.out).c1; replace g0 := (QR.out.to HB.out).c0; replace g1 := (QR.out.to HB.out).c1; replace u0 := (QR.out.to HB.out).f0; replace u1 := (QR.out.to HB.out).f1; have x0 := hX.c0; have x1 := hX.c1; clear hW1 hX hY; go_wp2_with fail
 obtain ⟨k0, k1, k2⟩ := two_set g0 g1 (.bool (decide (q < 0))) (.slice A3 (ln q.natAbs) c3); refine bodyPost_ret (v := .agg #[.bool (decide (q < 0)), .slice A3 (ln q.natAbs) c3]) (by simp [results, Tryz.results44, go_sem, k0, k1]) rfl ?_; exact ⟨A3, c3, rfl, (HN3.out.set_ g0 (by intro t; simp) _).set_ k2 (by intro t; simp) _, (by repeat (first | exact bel_then HW.out HB.out | refine below_set ?_ (by first | exact Nat.le_refl _ | omega | (simp; done) | (simp; omega)) _ | refine below_alloc ?_ _ | refine below_drewN ?_ _ | refine below_drew ?_))⟩
end Go.Proofs.YtddbmckbankmeaaGreat.Ex
set_option linter.unusedVariables false
set_option linter.unusedSimpArgs false
namespace Go.Proofs.YtddbmckbankmeaaGreat
open Go.RowKit
def cmpI (x y : Int) : Int := if x < y then -1 else if y < x then 1 else 0
def orL : List Int → Int
 | [] => 0
 | x :: xs => if x = 0 then orL xs else x
theorem orL_drop : ∀ (xs : List Int) (j : Nat), (∀ i : Nat, i < j → xs.getD i 0 = 0) → orL xs = orL (xs.drop j)
 | xs, 0, _ => rfl
 | [], j + 1, _ => rfl
 | x :: xs, j + 1, h => by
  have h0 : x = 0 := by simpa using h 0 (by omega)
  rw [List.drop_succ_cons, ← orL_drop xs j (fun i hi => by simpa using h (i + 1) (by omega)), orL, if_pos h0]
theorem orL_hit (xs : List Int) (j : Nat) (h : ∀ i : Nat, i < j → xs.getD i 0 = 0) (hj : j < xs.length) (hne : xs.getD j 0 ≠ 0) : orL xs = xs.getD j 0 := by
 rw [orL_drop xs j h, List.drop_eq_getElem_cons hj, orL]; rw [List.getD_eq_getElem?_getD, List.getElem?_eq_getElem hj] at hne ⊢; exact if_neg hne
theorem orL_none (xs : List Int) (h : ∀ i : Nat, i < xs.length → xs.getD i 0 = 0) : orL xs = 0 := by
 rw [orL_drop xs xs.length h, List.drop_length]; rfl
theorem bne_of {b c : Bool} (h : ¬ b = c) : (b != c) = true := by cases b <;> cases c <;> simp_all
def ordM (a b : Mv) : Int := orL [if a.f = b.f then 0 else if a.f = true then 1 else -1, cmpI a.t b.t, cmpI a.x b.x, cmpI a.y b.y]
section
variable {o : Oper} {a : Act} {w : World} {d : Nat} {Q : Exit → Act → World → Prop} {x1 x2 x3 x4 : Operand} {n1 n2 n3 n4 : Int}
theorem op_lit4 (ho : o.op = .buildSlice 41 4 #[(0, x1), (1, x2), (2, x3), (3, x4)]) (hd : o.dst = some d) (h1 : a.eval x1 = .int .i64 n1) (h2 : a.eval x2 = .int .i64 n2) (h3 : a.eval x3 = .int .i64 n3) (h4 : a.eval x4 = .int .i64 n4) (lo : Nat) (hl : lo ≤ w.heap.size) :
  o.wp Tryz.prog a w (Post a w d (isF lo [n1, n2, n3, n4]).p) Q := by
 have key : (execOp a.eval o).run Tryz.prog w = .ok (.value (.slice (some ⟨w.heap.size, 0, none⟩) 4 4)) (w.alloc (.cells (ints [n1, n2, n3, n4]).toArray 3)) := by
  generalize a.eval = ev at h1 h2 h3 h4 ⊢; unfold execOp; simp only [ho]; simp [go_sem, ints, h1, h2, h3, h4]
 unfold Oper.wp; rw [key]; simp only [Oper.upon, hd]; exact ⟨_, rfl, below_alloc (Below.refl _ _) _, w.heap.size, 4, [], rfl, hl, by simp, by omega, by rw [List.append_nil]; exact heap_alloc_new w _⟩
end
set_option maxRecDepth 100000 in
set_option maxHeartbeats 1000000 in
theorem isNaN_got (x : Int) (w : World) :
  Calls Tryz.prog 98 #[.int .i64 x] w (Got w (isV (.bool false)).p) := by
 go_enter Tryz.func98, Tryz.ntmps98
 go_upto_region 1 with fail
 have HE : Hd (Env w []) := ⟨trivial⟩; have HB : Hd (Below w.heap.size w w) := ⟨Below.refl _ _⟩; refine wp_region_vd 3 [3, 4, 5] [0, 1, 2] [] 63 [.int .i64 0, .int .i64 0] [qI x, qI x, qF] (by rfl) alloc_Z ?_ ?_
 ·intro qi qh qA aa wx hb hs hd
  match qi, qh, qA with
  | 0, _, _ => exact aL (op_mv rfl (hs 0 rfl)) | 1, _, _ => exact aL (op_mv rfl (hs 0 rfl)) | 2, _, _ => exact aL (pure_b (bool_eq (by simp)) (⟨_, op_neqI rfl (hd 0 rfl) (hd 1 rfl), rfl⟩)) | qi + 3, h, _ => omega
 intro vs X1 hb hv hal hne; replace HB := Hd.mk (bel_then HB.out hb); replace HE := Hd.mk (HE.out.to hb); have e5 : vs 5 = .bool false := hv 2 (by decide) rfl; simp only [PA, e5]; clear hv hal hne hb e5; go_wp2_with fail
 go_ret
 exact ⟨_, rfl, HB.out, rfl⟩
set_option maxRecDepth 100000 in
theorem Compare_got (x y : Int) (w : World) :
  Calls Tryz.prog 70 #[.int .i64 x, .int .i64 y] w (Got w (isV (.int .i64 (cmpI x y))).p) := by
 have HB : Hd (Below w.heap.size w w) := ⟨Below.refl _ _⟩; by_cases h1 : x < y
 ·rw [show cmpI x y = -1 from if_pos h1]; go_enter Tryz.func70, Tryz.ntmps70
  go_wp2_with (first | (go_at_call 98; refine (isNaN_got _ _).mono ?_; rintro e w' ⟨v, rfl, hb, rfl⟩; replace HB := Hd.mk (bel_then HB.out hb); clear hb) | fail)
  go_ret
  exact ⟨_, rfl, HB.out, rfl⟩
 by_cases h2 : y < x
 ·rw [show cmpI x y = 1 by unfold cmpI; rw [if_neg h1, if_pos h2]]; go_enter Tryz.func70, Tryz.ntmps70
  go_wp2_with (first | (go_at_call 98; refine (isNaN_got _ _).mono ?_; rintro e w' ⟨v, rfl, hb, rfl⟩; replace HB := Hd.mk (bel_then HB.out hb); clear hb) | fail)
  go_ret
  exact ⟨_, rfl, HB.out, rfl⟩
 rw [show cmpI x y = 0 by unfold cmpI; rw [if_neg h1, if_neg h2]]; go_enter Tryz.func70, Tryz.ntmps70
 go_wp2_with (first | (go_at_call 98; refine (isNaN_got _ _).mono ?_; rintro e w' ⟨v, rfl, hb, rfl⟩; replace HB := Hd.mk (bel_then HB.out hb); clear hb) | fail)
 go_ret
 exact ⟨_, rfl, HB.out, rfl⟩
set_option maxRecDepth 100000 in
set_option maxHeartbeats 1000000 in
theorem Or_got (A : Option Addr) (k : Nat) (xs : List Int) (w : World) (hri : RI w A xs) (hln : xs.length ≤ 140737488351232) :
  Calls Tryz.prog 69 #[.slice A xs.length k] w (Got w (isV (.int .i64 (orL xs))).p) := by
 have HRI := Hd.mk hri; clear hri; go_enter Tryz.func69, Tryz.ntmps69
 go_upto_region 1 with fail
 have HE : Hd (Env w []) := ⟨trivial⟩; have HB : Hd (Below w.heap.size w w) := ⟨Below.refl _ _⟩; refine wp_region_vd 0 [] [] [] 63 [.int .i64 0, .int .i64 0] [] (by rfl) alloc_Z ?_ ?_
 ·intro qi qh qA aa wx hb hs hd
  match qi, qh, qA with
  | qi + 0, h, _ => omega
 intro vs X1 hb hv hal hne; replace HB := Hd.mk (bel_then HB.out hb); replace HE := Hd.mk (HE.out.to hb); simp only [PA]; clear hv hal hne hb; go_upto_region 2 with fail
 refine wp_region_vd 3 [6, 7, 8] [0, 2] [] 63 [.int .i64 0, .int .i64 0] [isV (.slice A xs.length k), qI ((xs.length : Nat) : Int), qI 0] (by rfl) alloc_Z ?_ ?_
 ·intro qi qh qA aa wx hb hs hd
  match qi, qh, qA with
  | 0, _, _ => exact aL (op_mv rfl (hs 0 rfl)) | 1, _, _ => exact aL (op_len rfl rfl (hd 0 rfl)) | 2, _, _ => exact aL (op_mv rfl rfl) | qi + 3, h, _ => omega
 intro vs X2 hb hv hal hne; replace HB := Hd.mk (bel_then HB.out hb); replace HE := Hd.mk (HE.out.to hb); have e6 : vs 6 = .slice A xs.length k := hv 0 (by decide) rfl; have e7 : vs 7 = .int .i64 (((xs.length : Nat) : Int)) := hv 1 (by decide) rfl; have e8 : vs 8 = .int .i64 0 := hv 2 (by decide) rfl; simp only [PA, e6, e7, e8]; clear hv hal hne hb e6 e7 e8; go_wp2_with fail
 go_loopw [8] (fun s8 wr => ∃ j : Nat, j ≤ xs.length ∧ s8 = .int .i64 j ∧ (∀ i : Nat, i < j → xs.getD i 0 = 0) ∧ Below w.heap.size w wr) (fun s8 _ => xs.length - (intOf s8).toNat)
 case atStart => exact ⟨0, Nat.zero_le _, rfl, fun i hi => by omega, HB.out⟩
 case round =>
  obtain ⟨j, hjl, rfl, hz, hb⟩ := hrel; have HZ := Hd.mk hz; clear HB HE hz; have HB := Hd.mk hb; have HE : Hd (Env wr []) := ⟨trivial⟩; clear hb; by_cases hj : j < xs.length
  ·obtain ⟨ad, rfl, _⟩ := HRI.out.at_ hj; go_upto_region 4 with fail
   refine wp_region_vd 2 [10, 11] [] [] 63 [.int .i64 0, .int .i64 0] [isV (.pointer (some (Addr.add ad (((j : Nat) : Int)).toNat))), qI (xs.getD j 0)] (by rfl) alloc_Z ?_ ?_
   ·intro qi qh qA aa wx hb hs hd
    match qi, qh, qA with
    | 0, _, _ => exact aL (op_run rfl (op_idx (by omega) (by omega) rfl (hs 6 rfl) (hs 8 rfl) _) rfl) | 1, _, _ => exact aL (op_ldAt rfl rfl (hd 0 rfl) ((HRI.out.to (bel_then HB.out hb)).cellq hj)) | qi + 2, h, _ => omega
   intro vs X1 hb hv hal hne; replace HB := Hd.mk (bel_then HB.out hb); replace HE := Hd.mk (HE.out.to hb); have e11 : vs 11 = .int .i64 (xs.getD j 0) := hv 1 (by decide) rfl; simp only [PA, e11]; clear hv hal hne hb e11; by_cases h0 : xs.getD j 0 = 0
   ·skip
    go_upto_region 5 with fail
    refine wp_region_vd 3 [12, 13, 14] [0, 1, 2] [] 63 [.int .i64 0, .int .i64 0] [qI (xs.getD j 0), qI 0, qF] (by rfl) alloc_Z ?_ ?_
    ·intro qi qh qA aa wx hb hs hd
     match qi, qh, qA with
     | 0, _, _ => exact aL (op_mv rfl (hs 5 rfl)) | 1, _, _ => exact aL (op_mv rfl (hs 3 rfl)) | 2, _, _ => exact aL (pure_b (bool_eq (by rw [h0]; decide)) (⟨_, op_neqI rfl (hd 0 rfl) (hd 1 rfl), rfl⟩)) | qi + 3, h, _ => omega
    intro vs X2 hb hv hal hne; replace HB := Hd.mk (bel_then HB.out hb); replace HE := Hd.mk (HE.out.to hb); have e14 : vs 14 = .bool false := hv 2 (by decide) rfl; simp only [PA, e14]; clear hv hal hne hb e14; go_wp2_with fail
    go_roundw
    case rel => exact ⟨j + 1, by omega, by go_num, fun i hi => by
     by_cases e : i = j
     ·rw [e]; exact h0
     exact HZ.out i (by omega), HB.out⟩
    case measure => simp [intOf]; omega
   have HOR := Hd.mk (orL_hit xs j HZ.out hj h0); go_upto_region 5 with fail
   refine wp_region_vd 3 [12, 13, 14] [0, 1, 2] [] 63 [.int .i64 0, .int .i64 0] [qI (xs.getD j 0), qI 0, qT] (by rfl) alloc_Z ?_ ?_
   ·intro qi qh qA aa wx hb hs hd
    match qi, qh, qA with
    | 0, _, _ => exact aL (op_mv rfl (hs 5 rfl)) | 1, _, _ => exact aL (op_mv rfl (hs 3 rfl)) | 2, _, _ => exact aL (pure_b (bool_eq (by rw [decide_eq_false h0]; rfl)) (⟨_, op_neqI rfl (hd 0 rfl) (hd 1 rfl), rfl⟩)) | qi + 3, h, _ => omega
   intro vs X2 hb hv hal hne; replace HB := Hd.mk (bel_then HB.out hb); replace HE := Hd.mk (HE.out.to hb); have e14 : vs 14 = .bool true := hv 2 (by decide) rfl; simp only [PA, e14]; clear hv hal hne hb e14; go_upto_region 6 with fail
   refine wp_region_vd 1 [15] [0] [] 63 [.int .i64 0, .int .i64 0] [qI (xs.getD j 0)] (by rfl) alloc_Z ?_ ?_
   ·intro qi qh qA aa wx hb hs hd
    match qi, qh, qA with
    | 0, _, _ => exact aL (op_mv rfl (hs 5 rfl)) | qi + 1, h, _ => omega
   intro vs X3 hb hv hal hne; replace HB := Hd.mk (bel_then HB.out hb); replace HE := Hd.mk (HE.out.to hb); have e15 : vs 15 = .int .i64 (xs.getD j 0) := hv 0 (by decide) rfl; simp only [PA, e15]; clear hv hal hne hb e15; go_wp2_with fail
   go_ret
   exact ⟨_, rfl, HB.out, by rw [HOR.out]; rfl⟩
  have e1 : j = xs.length := by omega
  have HOR := Hd.mk (orL_none xs (by rw [← e1]; exact HZ.out)); go_wp2_with fail
  go_ret
  exact ⟨_, rfl, HB.out, by rw [HOR.out]; rfl⟩
set_option maxRecDepth 100000 in
set_option maxHeartbeats 1000000 in
theorem byOrder_got (a b : Mv) (w : World) :
  Calls Tryz.prog 55 #[.agg #[.int .i64 a.x, .int .i64 a.y, .int .i64 a.t, .bool a.f], .agg #[.int .i64 b.x, .int .i64 b.y, .int .i64 b.t, .bool b.f]] w (Got w (isV (.int .i64 (ordM a b))).p) := by
 by_cases h1 : a.f = b.f
 ·have e0 : ordM a b = orL [0, cmpI a.t b.t, cmpI a.x b.x, cmpI a.y b.y] := by unfold ordM; rw [if_pos h1]
  rw [e0]; clear e0; have H1 := Hd.mk h1; clear h1; go_enter Tryz.func55, Tryz.ntmps55
  go_upto_region 1 with fail
  obtain ⟨W0, hW0⟩ : ∃ W : World, W = (w.alloc (.cells #[.int .i64 a.x, .int .i64 a.y, .int .i64 a.t, .bool a.f] 65)).alloc (.cells #[.int .i64 b.x, .int .i64 b.y, .int .i64 b.t, .bool b.f] 65) := ⟨_, rfl⟩; rw [← hW0]; obtain ⟨he, hb⟩ := env_two hW0; have HE := Hd.mk he; have HB := Hd.mk hb; clear he hb hW0; refine wp_region_vd 0 [] [] [] 63 [.int .i64 0, .int .i64 0] [] (by rfl) alloc_Z ?_ ?_
  ·intro qi qh qA aa wx hb hs hd
   match qi, qh, qA with
   | qi + 0, h, _ => omega
  intro vs X1 hb hv hal hne; replace HB := Hd.mk (bel_then HB.out hb); replace HE := Hd.mk (HE.out.to hb); simp only [PA]; clear hv hal hne hb; go_upto_region 2 with fail
  refine wp_region_vd 5 [6, 7, 8, 9, 10] [0, 2, 4] [] 63 [.int .i64 0, .int .i64 0] [isV (.pointer (some ⟨w.heap.size, 3, none⟩)), isV (.bool a.f), isV (.pointer (some ⟨w.heap.size + 1, 3, none⟩)), isV (.bool b.f), qF] (by rfl) alloc_Z ?_ ?_
  ·intro qi qh qA aa wx hb hs hd
   match qi, qh, qA with
   | 0, _, _ => exact aL ⟨_, op_faM3 rfl (hs 2 rfl), rfl⟩ | 1, _, _ => exact aL (op_ldB rfl rfl (hd 0 rfl) ((HE.out.to hb).cell 0 3 rfl rfl)) | 2, _, _ => exact aL ⟨_, op_faM3 rfl (hs 3 rfl), rfl⟩ | 3, _, _ => exact aL (op_ldB rfl rfl (hd 2 rfl) ((HE.out.to hb).cell 1 3 rfl rfl)) | 4, _, _ => exact aL (pure_b (bool_eq (by rw [H1.out]; cases b.f <;> rfl)) (⟨_, op_neqB rfl (hd 1 rfl) (hd 3 rfl), rfl⟩)) | qi + 5, h, _ => omega
  intro vs X2 hb hv hal hne; replace HB := Hd.mk (bel_then HB.out hb); replace HE := Hd.mk (HE.out.to hb); have e10 : vs 10 = .bool false := hv 4 (by decide) rfl; simp only [PA, e10]; clear hv hal hne hb e10; go_upto_region 6 with fail
  refine wp_region_vs 19 [13, 14, 15, 16, 17, 18, 19, 20, 21, 22, 23, 24, 25, 26, 27, 28, 29, 30, 4] [0, 1, 3, 6, 8, 11, 13, 18] [] 63 [.int .i64 0, .int .i64 0] [qI 0, isV (.pointer (some ⟨w.heap.size, 2, none⟩)), qI a.t, isV (.pointer (some ⟨w.heap.size + 1, 2, none⟩)), qI b.t, qI (cmpI a.t b.t), isV (.pointer (some ⟨w.heap.size, 0, none⟩)), qI a.x, isV (.pointer (some ⟨w.heap.size + 1, 0, none⟩)), qI b.x, qI (cmpI a.x b.x), isV (.pointer (some ⟨w.heap.size, 1, none⟩)), qI a.y, isV (.pointer (some ⟨w.heap.size + 1, 1, none⟩)), qI b.y, qI (cmpI a.y b.y), isF X2.heap.size ([0, cmpI a.t b.t, cmpI a.x b.x, cmpI a.y b.y]), qI (orL [0, cmpI a.t b.t, cmpI a.x b.x, cmpI a.y b.y]), qI (orL [0, cmpI a.t b.t, cmpI a.x b.x, cmpI a.y b.y])] (by kernel_rfl) (by kernel_rfl) (by kernel_rfl) (by rfl) alloc_Z (fun d v c a w h => by cases d <;> exact h) ?_ ?_
  ·intro qi qh qA aa wx hb hs hd
   match qi, qh, qA with
   | 0, _, _ => exact op_mv rfl (hs 5 rfl) | 1, _, _ => exact ⟨_, op_faM2 rfl (hs 2 rfl), rfl⟩ | 2, _, _ => exact op_ldI rfl rfl (hd 1 rfl) ((HE.out.to hb).cell 0 2 rfl rfl) | 3, _, _ => exact ⟨_, op_faM2 rfl (hs 3 rfl), rfl⟩ | 4, _, _ => exact op_ldI rfl rfl (hd 3 rfl) ((HE.out.to hb).cell 1 2 rfl rfl) | 5, _, _ => exact op_call2 rfl rfl Tryz.call70 (by rw [(show aa.eval (.tmp 15) = .int .i64 a.t from (hd 2 rfl)), (show aa.eval (.tmp 17) = .int .i64 b.t from (hd 4 rfl))]; exact Compare_got a.t b.t _) | 6, _, _ => exact ⟨_, op_faM0 rfl (hs 2 rfl), rfl⟩ | 7, _, _ => exact op_ldI rfl rfl (hd 6 rfl) ((HE.out.to hb).cell 0 0 rfl rfl) | 8, _, _ => exact ⟨_, op_faM0 rfl (hs 3 rfl), rfl⟩ | 9, _, _ => exact op_ldI rfl rfl (hd 8 rfl) ((HE.out.to hb).cell 1 0 rfl rfl) | 10, _, _ => exact op_call2 rfl rfl Tryz.call70 (by rw [(show aa.eval (.tmp 20) = .int .i64 a.x from (hd 7 rfl)), (show aa.eval (.tmp 22) = .int .i64 b.x from (hd 9 rfl))]; exact Compare_got a.x b.x _) | 11, _, _ => exact ⟨_, op_faM1 rfl (hs 2 rfl), rfl⟩ | 12, _, _ => exact op_ldI rfl rfl (hd 11 rfl) ((HE.out.to hb).cell 0 1 rfl rfl) | 13, _, _ => exact ⟨_, op_faM1 rfl (hs 3 rfl), rfl⟩ | 14, _, _ => exact op_ldI rfl rfl (hd 13 rfl) ((HE.out.to hb).cell 1 1 rfl rfl) | 15, _, _ => exact op_call2 rfl rfl Tryz.call70 (by rw [(show aa.eval (.tmp 25) = .int .i64 a.y from (hd 12 rfl)), (show aa.eval (.tmp 27) = .int .i64 b.y from (hd 14 rfl))]; exact Compare_got a.y b.y _) | 16, _, _ => exact op_lit4 rfl rfl (hd 0 rfl) (hd 5 rfl) (hd 10 rfl) (hd 15 rfl) _ (Nat.le_trans (Nat.le_refl _) hb.size) | 17, _, _ => exact op_call1 rfl rfl Tryz.call69 (by obtain ⟨g, k, rest, e, _, _, _, b⟩ := (hd 16 rfl); rw [show aa.eval (.tmp 29) = _ from e]; exact Or_got _ k _ _ b.ri (by simp)) | 18, _, _ => exact op_asg rfl (hd 17 rfl) | qi + 19, h, _ => omega
  intro vs X3 hb hv hal hne; replace HB := Hd.mk (bel_then HB.out hb); replace HE := Hd.mk (HE.out.to hb); have e4 : vs 4 = .int .i64 (orL [0, cmpI a.t b.t, cmpI a.x b.x, cmpI a.y b.y]) := hv 18 (by decide) rfl; simp only [PA, e4]; clear hv hal hne hb e4; go_wp2_with fail
  go_ret
  exact ⟨_, rfl, HB.out, rfl⟩
 by_cases h2 : a.f = true
 ·have e0 : ordM a b = orL [1, cmpI a.t b.t, cmpI a.x b.x, cmpI a.y b.y] := by unfold ordM; rw [if_neg h1, if_pos h2]
  rw [e0]; clear e0; have H1 := Hd.mk h1; have H2 := Hd.mk h2; clear h1 h2; go_enter Tryz.func55, Tryz.ntmps55
  go_upto_region 1 with fail
  obtain ⟨W0, hW0⟩ : ∃ W : World, W = (w.alloc (.cells #[.int .i64 a.x, .int .i64 a.y, .int .i64 a.t, .bool a.f] 65)).alloc (.cells #[.int .i64 b.x, .int .i64 b.y, .int .i64 b.t, .bool b.f] 65) := ⟨_, rfl⟩; rw [← hW0]; obtain ⟨he, hb⟩ := env_two hW0; have HE := Hd.mk he; have HB := Hd.mk hb; clear he hb hW0; refine wp_region_vd 0 [] [] [] 63 [.int .i64 0, .int .i64 0] [] (by rfl) alloc_Z ?_ ?_
  ·intro qi qh qA aa wx hb hs hd
   match qi, qh, qA with
   | qi + 0, h, _ => omega
  intro vs X1 hb hv hal hne; replace HB := Hd.mk (bel_then HB.out hb); replace HE := Hd.mk (HE.out.to hb); simp only [PA]; clear hv hal hne hb; go_upto_region 2 with fail
  refine wp_region_vd 5 [6, 7, 8, 9, 10] [0, 2, 4] [] 63 [.int .i64 0, .int .i64 0] [isV (.pointer (some ⟨w.heap.size, 3, none⟩)), isV (.bool a.f), isV (.pointer (some ⟨w.heap.size + 1, 3, none⟩)), isV (.bool b.f), qT] (by rfl) alloc_Z ?_ ?_
  ·intro qi qh qA aa wx hb hs hd
   match qi, qh, qA with
   | 0, _, _ => exact aL ⟨_, op_faM3 rfl (hs 2 rfl), rfl⟩ | 1, _, _ => exact aL (op_ldB rfl rfl (hd 0 rfl) ((HE.out.to hb).cell 0 3 rfl rfl)) | 2, _, _ => exact aL ⟨_, op_faM3 rfl (hs 3 rfl), rfl⟩ | 3, _, _ => exact aL (op_ldB rfl rfl (hd 2 rfl) ((HE.out.to hb).cell 1 3 rfl rfl)) | 4, _, _ => exact aL (pure_b (bool_eq (bne_of H1.out)) (⟨_, op_neqB rfl (hd 1 rfl) (hd 3 rfl), rfl⟩)) | qi + 5, h, _ => omega
  intro vs X2 hb hv hal hne; replace HB := Hd.mk (bel_then HB.out hb); replace HE := Hd.mk (HE.out.to hb); have e10 : vs 10 = .bool true := hv 4 (by decide) rfl; simp only [PA, e10]; clear hv hal hne hb e10; go_upto_region 3 with fail
  refine wp_region_vd 0 [] [] [] 63 [.int .i64 0, .int .i64 0] [] (by rfl) alloc_Z ?_ ?_
  ·intro qi qh qA aa wx hb hs hd
   match qi, qh, qA with
   | qi + 0, h, _ => omega
  intro vs X3 hb hv hal hne; replace HB := Hd.mk (bel_then HB.out hb); replace HE := Hd.mk (HE.out.to hb); simp only [PA]; clear hv hal hne hb; go_upto_region 4 with fail
  refine wp_region_vd 2 [11, 12] [0] [] 63 [.int .i64 0, .int .i64 0] [isV (.pointer (some ⟨w.heap.size, 3, none⟩)), qT] (by rfl) alloc_Z ?_ ?_
  ·intro qi qh qA aa wx hb hs hd
   match qi, qh, qA with
   | 0, _, _ => exact aL ⟨_, op_faM3 rfl (hs 2 rfl), rfl⟩ | 1, _, _ => exact aL (wp_b (bool_eq H2.out) (op_ldB rfl rfl (hd 0 rfl) ((HE.out.to hb).cell 0 3 rfl rfl))) | qi + 2, h, _ => omega
  intro vs X4 hb hv hal hne; replace HB := Hd.mk (bel_then HB.out hb); replace HE := Hd.mk (HE.out.to hb); have e12 : vs 12 = .bool true := hv 1 (by decide) rfl; simp only [PA, e12]; clear hv hal hne hb e12; go_upto_region 5 with fail
  refine wp_region_vd 0 [] [] [] 63 [.int .i64 0, .int .i64 0] [] (by rfl) alloc_Z ?_ ?_
  ·intro qi qh qA aa wx hb hs hd
   match qi, qh, qA with
   | qi + 0, h, _ => omega
  intro vs X5 hb hv hal hne; replace HB := Hd.mk (bel_then HB.out hb); replace HE := Hd.mk (HE.out.to hb); simp only [PA]; clear hv hal hne hb; go_upto_region 6 with fail
  refine wp_region_vs 19 [13, 14, 15, 16, 17, 18, 19, 20, 21, 22, 23, 24, 25, 26, 27, 28, 29, 30, 4] [0, 1, 3, 6, 8, 11, 13, 18] [] 63 [.int .i64 0, .int .i64 0] [qI 1, isV (.pointer (some ⟨w.heap.size, 2, none⟩)), qI a.t, isV (.pointer (some ⟨w.heap.size + 1, 2, none⟩)), qI b.t, qI (cmpI a.t b.t), isV (.pointer (some ⟨w.heap.size, 0, none⟩)), qI a.x, isV (.pointer (some ⟨w.heap.size + 1, 0, none⟩)), qI b.x, qI (cmpI a.x b.x), isV (.pointer (some ⟨w.heap.size, 1, none⟩)), qI a.y, isV (.pointer (some ⟨w.heap.size + 1, 1, none⟩)), qI b.y, qI (cmpI a.y b.y), isF X5.heap.size ([1, cmpI a.t b.t, cmpI a.x b.x, cmpI a.y b.y]), qI (orL [1, cmpI a.t b.t, cmpI a.x b.x, cmpI a.y b.y]), qI (orL [1, cmpI a.t b.t, cmpI a.x b.x, cmpI a.y b.y])] (by kernel_rfl) (by kernel_rfl) (by kernel_rfl) (by rfl) alloc_Z (fun d v c a w h => by cases d <;> exact h) ?_ ?_
  ·intro qi qh qA aa wx hb hs hd
   match qi, qh, qA with
   | 0, _, _ => exact op_mv rfl (hs 5 rfl) | 1, _, _ => exact ⟨_, op_faM2 rfl (hs 2 rfl), rfl⟩ | 2, _, _ => exact op_ldI rfl rfl (hd 1 rfl) ((HE.out.to hb).cell 0 2 rfl rfl) | 3, _, _ => exact ⟨_, op_faM2 rfl (hs 3 rfl), rfl⟩ | 4, _, _ => exact op_ldI rfl rfl (hd 3 rfl) ((HE.out.to hb).cell 1 2 rfl rfl) | 5, _, _ => exact op_call2 rfl rfl Tryz.call70 (by rw [(show aa.eval (.tmp 15) = .int .i64 a.t from (hd 2 rfl)), (show aa.eval (.tmp 17) = .int .i64 b.t from (hd 4 rfl))]; exact Compare_got a.t b.t _) | 6, _, _ => exact ⟨_, op_faM0 rfl (hs 2 rfl), rfl⟩ | 7, _, _ => exact op_ldI rfl rfl (hd 6 rfl) ((HE.out.to hb).cell 0 0 rfl rfl) | 8, _, _ => exact ⟨_, op_faM0 rfl (hs 3 rfl), rfl⟩ | 9, _, _ => exact op_ldI rfl rfl (hd 8 rfl) ((HE.out.to hb).cell 1 0 rfl rfl) | 10, _, _ => exact op_call2 rfl rfl Tryz.call70 (by rw [(show aa.eval (.tmp 20) = .int .i64 a.x from (hd 7 rfl)), (show aa.eval (.tmp 22) = .int .i64 b.x from (hd 9 rfl))]; exact Compare_got a.x b.x _) | 11, _, _ => exact ⟨_, op_faM1 rfl (hs 2 rfl), rfl⟩ | 12, _, _ => exact op_ldI rfl rfl (hd 11 rfl) ((HE.out.to hb).cell 0 1 rfl rfl) | 13, _, _ => exact ⟨_, op_faM1 rfl (hs 3 rfl), rfl⟩ | 14, _, _ => exact op_ldI rfl rfl (hd 13 rfl) ((HE.out.to hb).cell 1 1 rfl rfl) | 15, _, _ => exact op_call2 rfl rfl Tryz.call70 (by rw [(show aa.eval (.tmp 25) = .int .i64 a.y from (hd 12 rfl)), (show aa.eval (.tmp 27) = .int .i64 b.y from (hd 14 rfl))]; exact Compare_got a.y b.y _) | 16, _, _ => exact op_lit4 rfl rfl (hd 0 rfl) (hd 5 rfl) (hd 10 rfl) (hd 15 rfl) _ (Nat.le_trans (Nat.le_refl _) hb.size) | 17, _, _ => exact op_call1 rfl rfl Tryz.call69 (by obtain ⟨g, k, rest, e, _, _, _, b⟩ := (hd 16 rfl); rw [show aa.eval (.tmp 29) = _ from e]; exact Or_got _ k _ _ b.ri (by simp)) | 18, _, _ => exact op_asg rfl (hd 17 rfl) | qi + 19, h, _ => omega
  intro vs X6 hb hv hal hne; replace HB := Hd.mk (bel_then HB.out hb); replace HE := Hd.mk (HE.out.to hb); have e4 : vs 4 = .int .i64 (orL [1, cmpI a.t b.t, cmpI a.x b.x, cmpI a.y b.y]) := hv 18 (by decide) rfl; simp only [PA, e4]; clear hv hal hne hb e4; go_wp2_with fail
  go_ret
  exact ⟨_, rfl, HB.out, rfl⟩
 have h3 : a.f = false := by simpa using h2
 have e0 : ordM a b = orL [(-1), cmpI a.t b.t, cmpI a.x b.x, cmpI a.y b.y] := by unfold ordM; rw [if_neg h1, if_neg h2]
 rw [e0]; clear e0; have H1 := Hd.mk h1; have H3 := Hd.mk h3; clear h1 h2 h3; go_enter Tryz.func55, Tryz.ntmps55
 go_upto_region 1 with fail
 obtain ⟨W0, hW0⟩ : ∃ W : World, W = (w.alloc (.cells #[.int .i64 a.x, .int .i64 a.y, .int .i64 a.t, .bool a.f] 65)).alloc (.cells #[.int .i64 b.x, .int .i64 b.y, .int .i64 b.t, .bool b.f] 65) := ⟨_, rfl⟩; rw [← hW0]; obtain ⟨he, hb⟩ := env_two hW0; have HE := Hd.mk he; have HB := Hd.mk hb; clear he hb hW0; refine wp_region_vd 0 [] [] [] 63 [.int .i64 0, .int .i64 0] [] (by rfl) alloc_Z ?_ ?_
 ·intro qi qh qA aa wx hb hs hd
  match qi, qh, qA with
  | qi + 0, h, _ => omega
 intro vs X1 hb hv hal hne; replace HB := Hd.mk (bel_then HB.out hb); replace HE := Hd.mk (HE.out.to hb); simp only [PA]; clear hv hal hne hb; go_upto_region 2 with fail
 refine wp_region_vd 5 [6, 7, 8, 9, 10] [0, 2, 4] [] 63 [.int .i64 0, .int .i64 0] [isV (.pointer (some ⟨w.heap.size, 3, none⟩)), isV (.bool a.f), isV (.pointer (some ⟨w.heap.size + 1, 3, none⟩)), isV (.bool b.f), qT] (by rfl) alloc_Z ?_ ?_
 ·intro qi qh qA aa wx hb hs hd
  match qi, qh, qA with
  | 0, _, _ => exact aL ⟨_, op_faM3 rfl (hs 2 rfl), rfl⟩ | 1, _, _ => exact aL (op_ldB rfl rfl (hd 0 rfl) ((HE.out.to hb).cell 0 3 rfl rfl)) | 2, _, _ => exact aL ⟨_, op_faM3 rfl (hs 3 rfl), rfl⟩ | 3, _, _ => exact aL (op_ldB rfl rfl (hd 2 rfl) ((HE.out.to hb).cell 1 3 rfl rfl)) | 4, _, _ => exact aL (pure_b (bool_eq (bne_of H1.out)) (⟨_, op_neqB rfl (hd 1 rfl) (hd 3 rfl), rfl⟩)) | qi + 5, h, _ => omega
 intro vs X2 hb hv hal hne; replace HB := Hd.mk (bel_then HB.out hb); replace HE := Hd.mk (HE.out.to hb); have e10 : vs 10 = .bool true := hv 4 (by decide) rfl; simp only [PA, e10]; clear hv hal hne hb e10; go_upto_region 3 with fail
 refine wp_region_vd 0 [] [] [] 63 [.int .i64 0, .int .i64 0] [] (by rfl) alloc_Z ?_ ?_
 ·intro qi qh qA aa wx hb hs hd
  match qi, qh, qA with
  | qi + 0, h, _ => omega
 intro vs X3 hb hv hal hne; replace HB := Hd.mk (bel_then HB.out hb); replace HE := Hd.mk (HE.out.to hb); simp only [PA]; clear hv hal hne hb; go_upto_region 4 with fail
 refine wp_region_vd 2 [11, 12] [0] [] 63 [.int .i64 0, .int .i64 0] [isV (.pointer (some ⟨w.heap.size, 3, none⟩)), qF] (by rfl) alloc_Z ?_ ?_
 ·intro qi qh qA aa wx hb hs hd
  match qi, qh, qA with
  | 0, _, _ => exact aL ⟨_, op_faM3 rfl (hs 2 rfl), rfl⟩ | 1, _, _ => exact aL (wp_b (bool_eq H3.out) (op_ldB rfl rfl (hd 0 rfl) ((HE.out.to hb).cell 0 3 rfl rfl))) | qi + 2, h, _ => omega
 intro vs X4 hb hv hal hne; replace HB := Hd.mk (bel_then HB.out hb); replace HE := Hd.mk (HE.out.to hb); have e12 : vs 12 = .bool false := hv 1 (by decide) rfl; simp only [PA, e12]; clear hv hal hne hb e12; go_upto_region 6 with fail
 refine wp_region_vs 19 [13, 14, 15, 16, 17, 18, 19, 20, 21, 22, 23, 24, 25, 26, 27, 28, 29, 30, 4] [0, 1, 3, 6, 8, 11, 13, 18] [] 63 [.int .i64 0, .int .i64 0] [qI (-1), isV (.pointer (some ⟨w.heap.size, 2, none⟩)), qI a.t, isV (.pointer (some ⟨w.heap.size + 1, 2, none⟩)), qI b.t, qI (cmpI a.t b.t), isV (.pointer (some ⟨w.heap.size, 0, none⟩)), qI a.x, isV (.pointer (some ⟨w.heap.size + 1, 0, none⟩)), qI b.x, qI (cmpI a.x b.x), isV (.pointer (some ⟨w.heap.size, 1, none⟩)), qI a.y, isV (.pointer (some ⟨w.heap.size + 1, 1, none⟩)), qI b.y, qI (cmpI a.y b.y), isF X4.heap.size ([(-1), cmpI a.t b.t, cmpI a.x b.x, cmpI a.y b.y]), qI (orL [(-1), cmpI a.t b.t, cmpI a.x b.x, cmpI a.y b.y]), qI (orL [(-1), cmpI a.t b.t, cmpI a.x b.x, cmpI a.y b.y])] (by kernel_rfl) (by kernel_rfl) (by kernel_rfl) (by rfl) alloc_Z (fun d v c a w h => by cases d <;> exact h) ?_ ?_
 ·intro qi qh qA aa wx hb hs hd
  match qi, qh, qA with
  | 0, _, _ => exact op_mv rfl (hs 5 rfl) | 1, _, _ => exact ⟨_, op_faM2 rfl (hs 2 rfl), rfl⟩ | 2, _, _ => exact op_ldI rfl rfl (hd 1 rfl) ((HE.out.to hb).cell 0 2 rfl rfl) | 3, _, _ => exact ⟨_, op_faM2 rfl (hs 3 rfl), rfl⟩ | 4, _, _ => exact op_ldI rfl rfl (hd 3 rfl) ((HE.out.to hb).cell 1 2 rfl rfl) | 5, _, _ => exact op_call2 rfl rfl Tryz.call70 (by rw [(show aa.eval (.tmp 15) = .int .i64 a.t from (hd 2 rfl)), (show aa.eval (.tmp 17) = .int .i64 b.t from (hd 4 rfl))]; exact Compare_got a.t b.t _) | 6, _, _ => exact ⟨_, op_faM0 rfl (hs 2 rfl), rfl⟩ | 7, _, _ => exact op_ldI rfl rfl (hd 6 rfl) ((HE.out.to hb).cell 0 0 rfl rfl) | 8, _, _ => exact ⟨_, op_faM0 rfl (hs 3 rfl), rfl⟩ | 9, _, _ => exact op_ldI rfl rfl (hd 8 rfl) ((HE.out.to hb).cell 1 0 rfl rfl) | 10, _, _ => exact op_call2 rfl rfl Tryz.call70 (by rw [(show aa.eval (.tmp 20) = .int .i64 a.x from (hd 7 rfl)), (show aa.eval (.tmp 22) = .int .i64 b.x from (hd 9 rfl))]; exact Compare_got a.x b.x _) | 11, _, _ => exact ⟨_, op_faM1 rfl (hs 2 rfl), rfl⟩ | 12, _, _ => exact op_ldI rfl rfl (hd 11 rfl) ((HE.out.to hb).cell 0 1 rfl rfl) | 13, _, _ => exact ⟨_, op_faM1 rfl (hs 3 rfl), rfl⟩ | 14, _, _ => exact op_ldI rfl rfl (hd 13 rfl) ((HE.out.to hb).cell 1 1 rfl rfl) | 15, _, _ => exact op_call2 rfl rfl Tryz.call70 (by rw [(show aa.eval (.tmp 25) = .int .i64 a.y from (hd 12 rfl)), (show aa.eval (.tmp 27) = .int .i64 b.y from (hd 14 rfl))]; exact Compare_got a.y b.y _) | 16, _, _ => exact op_lit4 rfl rfl (hd 0 rfl) (hd 5 rfl) (hd 10 rfl) (hd 15 rfl) _ (Nat.le_trans (Nat.le_refl _) hb.size) | 17, _, _ => exact op_call1 rfl rfl Tryz.call69 (by obtain ⟨g, k, rest, e, _, _, _, b⟩ := (hd 16 rfl); rw [show aa.eval (.tmp 29) = _ from e]; exact Or_got _ k _ _ b.ri (by simp)) | 18, _, _ => exact op_asg rfl (hd 17 rfl) | qi + 19, h, _ => omega
 intro vs X5 hb hv hal hne; replace HB := Hd.mk (bel_then HB.out hb); replace HE := Hd.mk (HE.out.to hb); have e4 : vs 4 = .int .i64 (orL [(-1), cmpI a.t b.t, cmpI a.x b.x, cmpI a.y b.y]) := hv 18 (by decide) rfl; simp only [PA, e4]; clear hv hal hne hb e4; go_wp2_with fail
 go_ret
 exact ⟨_, rfl, HB.out, rfl⟩
end Go.Proofs.YtddbmckbankmeaaGreat
