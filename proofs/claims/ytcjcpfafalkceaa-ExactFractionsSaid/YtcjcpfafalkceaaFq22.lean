/- Part 22 of the texts behind this claim. -/
import Derived.Test.YtcjcpfafalkceaaFq10
import Derived.Test.YtcjcpfafalkceaaFq12
import Derived.Test.YtcjcpfafalkceaaFq14
import Derived.Test.YtcjcpfafalkceaaFq17
import Derived.Test.YtcjcpfafalkceaaFq21
set_option linter.unusedVariables false
namespace Go.Proofs.Ytcjcpfafalkceaa
open Go.RowKit
theorem ln_1 : ln 1 = 1 := by
  have h1 : ln 1 ≤ 1 := ln_le (by rw [Nat.pow_one]; decide)
  have h2 : 0 < ln 1 := ln_pos.2 (by decide)
  omega
set_option maxHeartbeats 1000000 in
set_option maxRecDepth 100000 in
theorem wdiv_calls (x y : Int) (A1 : Option Addr) (c1 : Nat) (A2 : Option Addr) (c2 : Nat) (w : World) (h1 : NN w A1 c1 x.natAbs) (h2 : NN w A2 c2 y.natAbs) (hy : y ≠ 0) (l1 : ln x.natAbs ≤ 268435456) (l2 : ln y.natAbs ≤ 268435456) :
    Calls Try.prog 90 #[.agg #[.bool (decide (x < 0)), .slice A1 (ln x.natAbs) c1], .agg #[.bool (decide (y < 0)), .slice A2 (ln y.natAbs) c2]] w (RetZZ (x / y) (x % y) w) := by
  have hn0 : y.natAbs ≠ 0 := by omega
  have H2 := Hd.mk h2
  have HD := Hd.mk (fun W (hW : Below w.heap.size w W) => div_calls A1 c1 x.natAbs A2 c2 y.natAbs W (h1.to hW) (h2.to hW) hn0 l1)
  obtain ⟨e1, e2⟩ := ediv_abs x y hy
  have hsg := ediv_sign x y hy
  have hrs := emod_sign x y hy
  have hlq : ln (x.natAbs / y.natAbs) ≤ 268435456 := Nat.le_trans (ln_mono (Nat.div_le_self _ _)) l1
  have hrl : x.natAbs % y.natAbs ≤ y.natAbs := Nat.le_of_lt (Nat.mod_lt _ (by omega))
  unfold RetZZ
  rw [hrs]
  obtain ⟨Q, hQ⟩ : ∃ Q, Q = x.natAbs / y.natAbs := ⟨_, rfl⟩
  obtain ⟨R, hR⟩ : ∃ R, R = x.natAbs % y.natAbs := ⟨_, rfl⟩
  rw [← hQ] at e1 e2 hlq HD
  rw [← hR] at e1 e2 hrl HD
  by_cases hx : x < 0 ∧ R ≠ 0
  · obtain ⟨f1, f2⟩ := e1 hx.1 hx.2
    rw [f1] at hsg ⊢
    rw [f2]
    have hx1 : decide (x < 0) = true := decide_eq_true hx.1
    have hlr : decide (ln R = 0) = false := decide_eq_false (fun h => hx.2 (ln_eq_zero.1 h))
    have hlrn : ln R ≤ 9223372036854775807 := by have := ln_mono hrl; omega
    rw [hx1] at hsg ⊢
    have HA := Hd.mk (fun W A c A' c' (h1 : NN W A c Q) (h2 : NN W A' c' 1) => add_calls A c Q A' c' 1 W h1 h2 (by omega) (by rw [ln_1]; omega))
    have HS := Hd.mk (fun W A c (hW : Below w.heap.size w W) (h2 : NN W A c R) => sub_calls A2 c2 y.natAbs A c R W (H2.out.to hW) h2 hrl (by omega))
    have hQl : ln (Q + 1) ≤ 9223372036854775807 := by have := ln_add Q 1; have := ln_1; omega
    obtain ⟨b2, hb2⟩ : ∃ b, b = decide (y < 0) := ⟨_, rfl⟩
    obtain ⟨b3, hb3⟩ : ∃ b, b = decide (x / y < 0) := ⟨_, rfl⟩
    rw [← hb2] at hsg ⊢
    rw [← hb3] at hsg ⊢
    obtain ⟨M, hM⟩ : ∃ M, M = y.natAbs := ⟨_, rfl⟩
    rw [← hM] at HD HS l2 hrl ⊢
    obtain ⟨N, hN⟩ : ∃ N, N = x.natAbs := ⟨_, rfl⟩
    rw [← hN] at HD l1 ⊢
    obtain ⟨qq, hq2⟩ : ∃ q2, q2 = Q + 1 := ⟨_, rfl⟩
    rw [← hq2] at hsg hQl HA ⊢
    obtain ⟨r2, hr2⟩ : ∃ r2, r2 = M - R := ⟨_, rfl⟩
    rw [← hr2] at HS ⊢
    obtain ⟨bz, hbz⟩ : ∃ bz, bz = decide (ln qq = 0) := ⟨_, rfl⟩
    have HBZ := Hd.mk hbz
    rw [← hbz] at hsg
    subst hsg
    clear hx e1 e2 f1 f2 hQ hR hx1 h1 h2 H2 hb2 hb3 hM hN hrl hq2 hr2 hn0 hy hrs hbz
    go_enter Try.func90, Try.ntmps90
    go_wp2_with fail
    obtain ⟨W0, hW0⟩ : ∃ W : World, W = (((w.alloc (.cells #[.bool true, .slice A1 (ln N) c1] 70)).alloc (.cells #[.bool b2, .slice A2 (ln M) c2] 70)).alloc (.cells #[.bool false, .slice none 0 0] 70)).alloc (.cells #[.bool false, .slice none 0 0] 70) := ⟨_, rfl⟩
    rw [← hW0]
    have HSZ : Hd (w.heap.size + 1 + 1 + 1 + 1 = W0.heap.size) := ⟨by rw [hW0]; simp⟩
    obtain ⟨hB0, hB1, hB2, hB3, hBW⟩ := boxes4 hW0
    have q0 := hB0.c0
    have q1 := hB0.c1
    have q2 := hB1.c0
    have q3 := hB1.c1
    have g0 := hB2.c0
    have g1 := hB2.c1
    have u0 := hB2.f0
    have u1 := hB2.f1
    have p0 := hB3.c0
    have p1 := hB3.c1
    have v0 := hB3.f0
    have v1 := hB3.f1
    have Q0 := Hd.mk hB0
    have Q1 := Hd.mk hB1
    have QR := Hd.mk hB2
    have QS := Hd.mk hB3
    have HW := Hd.mk hBW
    have HB : Hd (Below W0.heap.size W0 W0) := ⟨Below.refl _ _⟩
    clear hB0 hB1 hB2 hB3 hBW hW0
    refine (HD.out _ (bel_then HW.out (by repeat (first | exact HB.out | exact Below.refl _ _ | refine below_alloc ?_ _ | refine below_drewN ?_ _ | refine below_drew ?_ | refine below_set ?_ (by first | exact Nat.le_refl _ | omega | (simp; done) | (simp; omega)) _)))).mono ?_
    rintro e w1 ⟨A3, c3, A4, c4, rfl, hn3, hn4, hb⟩
    have HN3 := Hd.mk hn3
    have HN4 := Hd.mk hn4
    clear hn3 hn4
    have HB' : Hd (Below W0.heap.size W0 _) := ⟨bel_then (by repeat (first | exact HB.out | exact Below.refl _ _ | refine below_alloc ?_ _ | refine below_drewN ?_ _ | refine below_drew ?_ | refine below_set ?_ (by first | exact Nat.le_refl _ | omega | (simp; done) | (simp; omega)) _)) hb⟩; clear HB; have HB := HB'; clear HB' hb; replace q0 := (Q0.out.to HB.out).c0; replace q1 := (Q0.out.to HB.out).c1; replace q2 := (Q1.out.to HB.out).c0; replace q3 := (Q1.out.to HB.out).c1; replace g0 := (QR.out.to HB.out).c0; replace g1 := (QR.out.to HB.out).c1; replace u0 := (QR.out.to HB.out).f0; replace u1 := (QR.out.to HB.out).f1; replace p0 := (QS.out.to HB.out).c0; replace p1 := (QS.out.to HB.out).c1; replace v0 := (QS.out.to HB.out).f0; replace v1 := (QS.out.to HB.out).f1
    go_wp2_with fail
    refine (zero_calls _ _ _ _ hlrn).mono ?_
    rintro e w2 ⟨rfl, rfl⟩
    rw [hlr]
    go_wp2_with fail
    go_region_held3 (fun w' => w'.cell? ⟨w.heap.size, 0, none⟩ = some (.bool true) ∧ w'.cell? ⟨w.heap.size, 1, none⟩ = some (.slice A1 (ln N) c1) ∧ w'.cell? ⟨w.heap.size + 1, 0, none⟩ = some (.bool b2) ∧ w'.cell? ⟨w.heap.size + 1, 1, none⟩ = some (.slice A2 (ln M) c2)) (first | exact ⟨q0, q1, q2, q3⟩ | (repeat' apply And.intro) <;> (first | exact q0 | exact q1 | exact q2 | exact q3 | (go_keep; done) | (rw [World.cell?_setCell_far _ _ _ _ (by first | (simp; done) | (simp; omega)), World.cell?_setCell_far _ _ _ _ (by first | (simp; done) | (simp; omega))]; first | exact q0 | exact q1 | exact q2 | exact q3)))
      (first | (go_at_call 78; refine (small_calls 1 (by decide) _).mono ?_; rintro e w3 ⟨A5, c5, rfl, hn5, hb⟩; have HN5 := Hd.mk hn5; replace HN3 := Hd.mk (HN3.out.to (bel_then (by repeat (first | exact Below.refl _ _ | refine below_drewN ?_ _ | refine below_drew ?_)) hb)); replace HN4 := Hd.mk (HN4.out.to (bel_then (by repeat (first | exact Below.refl _ _ | refine below_drewN ?_ _ | refine below_drew ?_)) hb)); clear hn5; have HB' : Hd (Below W0.heap.size W0 _) := ⟨bel_then (by repeat (first | exact HB.out | exact Below.refl _ _ | refine below_alloc ?_ _ | refine below_drewN ?_ _ | refine below_drew ?_ | refine below_set ?_ (by first | exact Nat.le_refl _ | omega | (simp; done) | (simp; omega)) _)) hb⟩; clear HB; have HB := HB'; clear HB' hb; replace q0 := (Q0.out.to HB.out).c0; replace q1 := (Q0.out.to HB.out).c1; replace q2 := (Q1.out.to HB.out).c0; replace q3 := (Q1.out.to HB.out).c1; replace g0 := (QR.out.to HB.out).c0; replace g1 := (QR.out.to HB.out).c1; replace u0 := (QR.out.to HB.out).f0; replace u1 := (QR.out.to HB.out).f1; replace p0 := (QS.out.to HB.out).c0; replace p1 := (QS.out.to HB.out).c1; replace v0 := (QS.out.to HB.out).f0; replace v1 := (QS.out.to HB.out).f1) | (go_at_call 77; refine (HA.out _ A3 c3 A5 c5 HN3.out HN5.out).mono ?_; rintro e w4 ⟨A6, c6, rfl, hn6, hb⟩; have HN6 := Hd.mk hn6; replace HN4 := Hd.mk (HN4.out.to (bel_then (by repeat (first | exact Below.refl _ _ | refine below_drewN ?_ _ | refine below_drew ?_)) hb)); clear hn6; have HB' : Hd (Below W0.heap.size W0 _) := ⟨bel_then (by repeat (first | exact HB.out | exact Below.refl _ _ | refine below_alloc ?_ _ | refine below_drewN ?_ _ | refine below_drew ?_ | refine below_set ?_ (by first | exact Nat.le_refl _ | omega | (simp; done) | (simp; omega)) _)) hb⟩; clear HB; have HB := HB'; clear HB' hb; replace q0 := (Q0.out.to HB.out).c0; replace q1 := (Q0.out.to HB.out).c1; replace q2 := (Q1.out.to HB.out).c0; replace q3 := (Q1.out.to HB.out).c1; replace g0 := (QR.out.to HB.out).c0; replace g1 := (QR.out.to HB.out).c1; replace u0 := (QR.out.to HB.out).f0; replace u1 := (QR.out.to HB.out).f1; replace p0 := (QS.out.to HB.out).c0; replace p1 := (QS.out.to HB.out).c1; replace v0 := (QS.out.to HB.out).f0; replace v1 := (QS.out.to HB.out).f1) | (go_at_call 116; refine (HS.out _ A4 c4 (bel_then HW.out (by repeat (first | exact HB.out | exact Below.refl _ _ | refine below_alloc ?_ _ | refine below_drewN ?_ _ | refine below_drew ?_ | refine below_set ?_ (by first | exact Nat.le_refl _ | omega | (simp; done) | (simp; omega)) _))) HN4.out).mono ?_; rintro e w5 ⟨A7, c7, rfl, hn7, hb⟩; have HN7 := Hd.mk hn7; replace HN6 := Hd.mk (HN6.out.to (bel_then (by repeat (first | exact Below.refl _ _ | refine below_drewN ?_ _ | refine below_drew ?_)) hb)); clear hn7; have HB' : Hd (Below W0.heap.size W0 _) := ⟨bel_then (by repeat (first | exact HB.out | exact Below.refl _ _ | refine below_alloc ?_ _ | refine below_drewN ?_ _ | refine below_drew ?_ | refine below_set ?_ (by first | exact Nat.le_refl _ | omega | (simp; done) | (simp; omega)) _)) hb⟩; clear HB; have HB := HB'; clear HB' hb; replace q0 := (Q0.out.to HB.out).c0; replace q1 := (Q0.out.to HB.out).c1; replace q2 := (Q1.out.to HB.out).c0; replace q3 := (Q1.out.to HB.out).c1; replace g0 := (QR.out.to HB.out).c0; replace g1 := (QR.out.to HB.out).c1; replace u0 := (QR.out.to HB.out).f0; replace u1 := (QR.out.to HB.out).f1; replace p0 := (QS.out.to HB.out).c0; replace p1 := (QS.out.to HB.out).c1; replace v0 := (QS.out.to HB.out).f0; replace v1 := (QS.out.to HB.out).f1))
    rcases b2 with _ | _
    · go_wp2_with fail
      refine (zero_calls _ _ _ _ hQl).mono ?_
      rintro e w9 ⟨rfl, rfl⟩
      rw [← HBZ.out]
      go_wp2_with fail
      obtain ⟨k0, k1, k2, k3, k4, k5, k6⟩ := four_set g0 g1 p0 p1 (show w.heap.size + 1 + 1 ≠ w.heap.size + 1 + 1 + 1 by omega) (.bool (!bz)) (.slice A6 (ln qq) c6) (.bool false) (.slice A7 (ln r2) c7)
      refine bodyPost_ret (v := .tuple #[.agg #[.bool (!bz), .slice A6 (ln qq) c6], .agg #[.bool false, .slice A7 (ln r2) c7]]) (by simp [results, Try.results90, go_sem, k0, k1, k2, k3]) rfl ?_
      exact ⟨_, _, _, _, rfl, (((HN6.out.set_ g0 (by intro t; simp) _).set_ k4 (by intro t; simp) _).set_ k5 (by intro t; simp) _).set_ k6 (by intro t; simp) _, (((HN7.out.set_ g0 (by intro t; simp) _).set_ k4 (by intro t; simp) _).set_ k5 (by intro t; simp) _).set_ k6 (by intro t; simp) _, (by repeat (first | exact bel_then HW.out HB.out | refine below_set ?_ (by first | exact Nat.le_refl _ | omega | (simp; done) | (simp; omega)) _ | refine below_alloc ?_ _ | refine below_drewN ?_ _ | refine below_drew ?_))⟩
    · go_wp2_with fail
      obtain ⟨k0, k1, k2, k3, k4, k5, k6⟩ := four_set g0 g1 p0 p1 (show w.heap.size + 1 + 1 ≠ w.heap.size + 1 + 1 + 1 by omega) (.bool false) (.slice A6 (ln qq) c6) (.bool false) (.slice A7 (ln r2) c7)
      refine bodyPost_ret (v := .tuple #[.agg #[.bool false, .slice A6 (ln qq) c6], .agg #[.bool false, .slice A7 (ln r2) c7]]) (by simp [results, Try.results90, go_sem, k0, k1, k2, k3]) rfl ?_
      exact ⟨_, _, _, _, rfl, (((HN6.out.set_ g0 (by intro t; simp) _).set_ k4 (by intro t; simp) _).set_ k5 (by intro t; simp) _).set_ k6 (by intro t; simp) _, (((HN7.out.set_ g0 (by intro t; simp) _).set_ k4 (by intro t; simp) _).set_ k5 (by intro t; simp) _).set_ k6 (by intro t; simp) _, (by repeat (first | exact bel_then HW.out HB.out | refine below_set ?_ (by first | exact Nat.le_refl _ | omega | (simp; done) | (simp; omega)) _ | refine below_alloc ?_ _ | refine below_drewN ?_ _ | refine below_drew ?_))⟩
  · obtain ⟨f1, f2⟩ := e2 hx
    rw [f1] at hsg ⊢
    rw [f2]
    have hlrn : ln R ≤ 9223372036854775807 := by have := ln_mono hrl; omega
    have hQl : ln Q ≤ 9223372036854775807 := by omega
    have hlr : x < 0 → decide (ln R = 0) = true := fun h => decide_eq_true (by
      by_cases h0 : R = 0
      · rw [h0, ln_zero]
      · exact absurd ⟨h, h0⟩ hx)
    obtain ⟨b1, hb1⟩ : ∃ b, b = decide (x < 0) := ⟨_, rfl⟩
    have HLR : Hd (b1 = true → decide (ln R = 0) = true) := ⟨fun h => hlr (by rw [h] at hb1; exact of_decide_eq_true hb1.symm)⟩
    obtain ⟨b2, hb2⟩ : ∃ b, b = decide (y < 0) := ⟨_, rfl⟩
    obtain ⟨b3, hb3⟩ : ∃ b, b = decide (x / y < 0) := ⟨_, rfl⟩
    rw [← hb1, ← hb2] at hsg ⊢
    rw [← hb3] at hsg ⊢
    obtain ⟨M, hM⟩ : ∃ M, M = y.natAbs := ⟨_, rfl⟩
    rw [← hM] at HD l2 hrl ⊢
    obtain ⟨N, hN⟩ : ∃ N, N = x.natAbs := ⟨_, rfl⟩
    rw [← hN] at HD l1 ⊢
    obtain ⟨bz, hbz⟩ : ∃ bz, bz = decide (ln Q = 0) := ⟨_, rfl⟩
    have HBZ := Hd.mk hbz
    rw [← hbz] at hsg
    subst hsg
    clear hx e1 e2 f1 f2 hQ hR hb1 h1 h2 H2 hb2 hb3 hM hN hrl hn0 hy hrs hbz hlr
    go_enter Try.func90, Try.ntmps90
    go_wp2_with fail
    obtain ⟨W0, hW0⟩ : ∃ W : World, W = (((w.alloc (.cells #[.bool b1, .slice A1 (ln N) c1] 70)).alloc (.cells #[.bool b2, .slice A2 (ln M) c2] 70)).alloc (.cells #[.bool false, .slice none 0 0] 70)).alloc (.cells #[.bool false, .slice none 0 0] 70) := ⟨_, rfl⟩
    rw [← hW0]
    have HSZ : Hd (w.heap.size + 1 + 1 + 1 + 1 = W0.heap.size) := ⟨by rw [hW0]; simp⟩
    obtain ⟨hB0, hB1, hB2, hB3, hBW⟩ := boxes4 hW0
    have q0 := hB0.c0
    have q1 := hB0.c1
    have q2 := hB1.c0
    have q3 := hB1.c1
    have g0 := hB2.c0
    have g1 := hB2.c1
    have u0 := hB2.f0
    have u1 := hB2.f1
    have p0 := hB3.c0
    have p1 := hB3.c1
    have v0 := hB3.f0
    have v1 := hB3.f1
    have Q0 := Hd.mk hB0
    have Q1 := Hd.mk hB1
    have QR := Hd.mk hB2
    have QS := Hd.mk hB3
    have HW := Hd.mk hBW
    have HB : Hd (Below W0.heap.size W0 W0) := ⟨Below.refl _ _⟩
    clear hB0 hB1 hB2 hB3 hBW hW0
    refine (HD.out _ (bel_then HW.out (by repeat (first | exact HB.out | exact Below.refl _ _ | refine below_alloc ?_ _ | refine below_drewN ?_ _ | refine below_drew ?_ | refine below_set ?_ (by first | exact Nat.le_refl _ | omega | (simp; done) | (simp; omega)) _)))).mono ?_
    rintro e w1 ⟨A3, c3, A4, c4, rfl, hn3, hn4, hb⟩
    have HN3 := Hd.mk hn3
    have HN4 := Hd.mk hn4
    clear hn3 hn4
    have HB' : Hd (Below W0.heap.size W0 _) := ⟨bel_then (by repeat (first | exact HB.out | exact Below.refl _ _ | refine below_alloc ?_ _ | refine below_drewN ?_ _ | refine below_drew ?_ | refine below_set ?_ (by first | exact Nat.le_refl _ | omega | (simp; done) | (simp; omega)) _)) hb⟩; clear HB; have HB := HB'; clear HB' hb; replace q0 := (Q0.out.to HB.out).c0; replace q1 := (Q0.out.to HB.out).c1; replace q2 := (Q1.out.to HB.out).c0; replace q3 := (Q1.out.to HB.out).c1; replace g0 := (QR.out.to HB.out).c0; replace g1 := (QR.out.to HB.out).c1; replace u0 := (QR.out.to HB.out).f0; replace u1 := (QR.out.to HB.out).f1; replace p0 := (QS.out.to HB.out).c0; replace p1 := (QS.out.to HB.out).c1; replace v0 := (QS.out.to HB.out).f0; replace v1 := (QS.out.to HB.out).f1
    rcases b1 with _ | _
    · rcases b2 with _ | _
      · go_wp2_with fail
        obtain ⟨k0, k1, k2, k3, k4, k5, k6⟩ := four_set g0 g1 p0 p1 (show w.heap.size + 1 + 1 ≠ w.heap.size + 1 + 1 + 1 by omega) (.bool false) (.slice A3 (ln Q) c3) (.bool false) (.slice A4 (ln R) c4)
        refine bodyPost_ret (v := .tuple #[.agg #[.bool false, .slice A3 (ln Q) c3], .agg #[.bool false, .slice A4 (ln R) c4]]) (by simp [results, Try.results90, go_sem, k0, k1, k2, k3]) rfl ?_
        exact ⟨_, _, _, _, rfl, (((HN3.out.set_ g0 (by intro t; simp) _).set_ k4 (by intro t; simp) _).set_ k5 (by intro t; simp) _).set_ k6 (by intro t; simp) _, (((HN4.out.set_ g0 (by intro t; simp) _).set_ k4 (by intro t; simp) _).set_ k5 (by intro t; simp) _).set_ k6 (by intro t; simp) _, (by repeat (first | exact bel_then HW.out HB.out | refine below_set ?_ (by first | exact Nat.le_refl _ | omega | (simp; done) | (simp; omega)) _ | refine below_alloc ?_ _ | refine below_drewN ?_ _ | refine below_drew ?_))⟩
      · go_wp2_with fail
        refine (zero_calls _ _ _ _ hQl).mono ?_
        rintro e w9 ⟨rfl, rfl⟩
        rw [← HBZ.out]
        go_wp2_with fail
        obtain ⟨k0, k1, k2, k3, k4, k5, k6⟩ := four_set g0 g1 p0 p1 (show w.heap.size + 1 + 1 ≠ w.heap.size + 1 + 1 + 1 by omega) (.bool (!bz)) (.slice A3 (ln Q) c3) (.bool false) (.slice A4 (ln R) c4)
        refine bodyPost_ret (v := .tuple #[.agg #[.bool (!bz), .slice A3 (ln Q) c3], .agg #[.bool false, .slice A4 (ln R) c4]]) (by simp [results, Try.results90, go_sem, k0, k1, k2, k3]) rfl ?_
        exact ⟨_, _, _, _, rfl, (((HN3.out.set_ g0 (by intro t; simp) _).set_ k4 (by intro t; simp) _).set_ k5 (by intro t; simp) _).set_ k6 (by intro t; simp) _, (((HN4.out.set_ g0 (by intro t; simp) _).set_ k4 (by intro t; simp) _).set_ k5 (by intro t; simp) _).set_ k6 (by intro t; simp) _, (by repeat (first | exact bel_then HW.out HB.out | refine below_set ?_ (by first | exact Nat.le_refl _ | omega | (simp; done) | (simp; omega)) _ | refine below_alloc ?_ _ | refine below_drewN ?_ _ | refine below_drew ?_))⟩
    · go_wp2_with fail
      refine (zero_calls _ _ _ _ hlrn).mono ?_
      rintro e w2 ⟨rfl, rfl⟩
      rw [HLR.out (by simp)]
      rcases b2 with _ | _
      · go_wp2_with fail
        refine (zero_calls _ _ _ _ hQl).mono ?_
        rintro e w9 ⟨rfl, rfl⟩
        rw [← HBZ.out]
        go_wp2_with fail
        obtain ⟨k0, k1, k2, k3, k4, k5, k6⟩ := four_set g0 g1 p0 p1 (show w.heap.size + 1 + 1 ≠ w.heap.size + 1 + 1 + 1 by omega) (.bool (!bz)) (.slice A3 (ln Q) c3) (.bool false) (.slice A4 (ln R) c4)
        refine bodyPost_ret (v := .tuple #[.agg #[.bool (!bz), .slice A3 (ln Q) c3], .agg #[.bool false, .slice A4 (ln R) c4]]) (by simp [results, Try.results90, go_sem, k0, k1, k2, k3]) rfl ?_
        exact ⟨_, _, _, _, rfl, (((HN3.out.set_ g0 (by intro t; simp) _).set_ k4 (by intro t; simp) _).set_ k5 (by intro t; simp) _).set_ k6 (by intro t; simp) _, (((HN4.out.set_ g0 (by intro t; simp) _).set_ k4 (by intro t; simp) _).set_ k5 (by intro t; simp) _).set_ k6 (by intro t; simp) _, (by repeat (first | exact bel_then HW.out HB.out | refine below_set ?_ (by first | exact Nat.le_refl _ | omega | (simp; done) | (simp; omega)) _ | refine below_alloc ?_ _ | refine below_drewN ?_ _ | refine below_drew ?_))⟩
      · go_wp2_with fail
        obtain ⟨k0, k1, k2, k3, k4, k5, k6⟩ := four_set g0 g1 p0 p1 (show w.heap.size + 1 + 1 ≠ w.heap.size + 1 + 1 + 1 by omega) (.bool false) (.slice A3 (ln Q) c3) (.bool false) (.slice A4 (ln R) c4)
        refine bodyPost_ret (v := .tuple #[.agg #[.bool false, .slice A3 (ln Q) c3], .agg #[.bool false, .slice A4 (ln R) c4]]) (by simp [results, Try.results90, go_sem, k0, k1, k2, k3]) rfl ?_
        exact ⟨_, _, _, _, rfl, (((HN3.out.set_ g0 (by intro t; simp) _).set_ k4 (by intro t; simp) _).set_ k5 (by intro t; simp) _).set_ k6 (by intro t; simp) _, (((HN4.out.set_ g0 (by intro t; simp) _).set_ k4 (by intro t; simp) _).set_ k5 (by intro t; simp) _).set_ k6 (by intro t; simp) _, (by repeat (first | exact bel_then HW.out HB.out | refine below_set ?_ (by first | exact Nat.le_refl _ | omega | (simp; done) | (simp; omega)) _ | refine below_alloc ?_ _ | refine below_drewN ?_ _ | refine below_drew ?_))⟩
end Go.Proofs.Ytcjcpfafalkceaa
set_option linter.unusedVariables false
namespace Go.Proofs.Ytcjcpfafalkceaa
open Go.RowKit
theorem half_digit (n k : Nat) : (dig n).getD k 0 / 2 + (dig n).getD (k + 1) 0 % 2 * 2147483648 = n / 2 / B ^ k % B := by
  rw [dig_getD, dig_getD, Nat.div_div_eq_div_mul n, Nat.mul_comm 2 (B ^ k), ← Nat.div_div_eq_div_mul n, Nat.pow_succ, ← Nat.div_div_eq_div_mul n]
  generalize n / B ^ k = m
  show m % 4294967296 / 2 + m / 4294967296 % 4294967296 % 2 * 2147483648 = m / 2 % 4294967296
  omega
theorem u32_or_sum {a t : Nat} (ha : a < 2147483648) (ht : t < 2) : bits .or .u32 (a : Int) ((t * 2147483648 : Nat) : Int) = ((a + t * 2147483648 : Nat) : Int) := by
  rw [u32_or_nat _ _ (by omega) (by omega)]
  congr 1
  have := Nat.two_pow_add_eq_or_of_lt (i := 31) ha t
  rw [Nat.or_comm, ← show 2 ^ 31 * t = t * 2147483648 from Nat.mul_comm _ _, ← this]
  omega
theorem getD_set_eq (ds : List Nat) (k x : Nat) (h : k < ds.length) : (ds.set k x).getD k 0 = x := by simp [h]
set_option maxHeartbeats 1000000 in
set_option maxRecDepth 100000 in
theorem rhalf_calls (A1 : Option Addr) (c1 n : Nat) (w : World) (h1 : NN w A1 c1 n) (l1 : ln n ≤ 1073741824) :
    Calls Try.prog 138 #[.slice A1 (ln n) c1] w (RetN (n / 2) w) := by
  have HX := Hd.mk h1
  clear h1
  have hmk := fun W => make_words 36 Try.underlying36 (ln n : Int) (ln n) (by omega) (by omega) W
  go_enter Try.func138, Try.ntmps138
  go_wp2
  clear hmk
  go_loopw [10] (fun s10 wr => ∃ (k : Nat) (ds : List Nat), k ≤ ln n ∧ s10 = .int .i64 k ∧ ds.length = k ∧ Dg ds ∧ val ds = n / 2 % B ^ k ∧ Blk wr w.heap.size 72 (cells (ds ++ List.replicate (ln n - k) 0)) ∧ Below w.heap.size w wr) (fun s _ => ln n - (intOf s).toNat)
  case atStart => exact ⟨0, [], Nat.zero_le _, rfl, rfl, (fun x hx => by cases hx), by simp [val, Nat.mod_one], heap_alloc_new w _, below_alloc (Below.refl _ _) _⟩
  case round =>
    obtain ⟨k, ds, hk, rfl, hdl, hdd, hval, hblk, hbel⟩ := hrel
    have HV := Hd.mk hval
    have HK := Hd.mk hblk
    have HL := Hd.mk hdl
    have HB := Hd.mk hbel
    have HDD := Hd.mk hdd
    clear hval hblk hdl hbel hdd
    by_cases hkl : k < ln n
    · obtain ⟨a1, rfl, hcell1⟩ := (HX.out.to HB.out).at_ hkl
      obtain ⟨x, hx⟩ : ∃ x, x = (dig n).getD k 0 := ⟨_, rfl⟩
      have hx1 : x < 4294967296 := by rw [hx]; exact dg_get (dg_dig _) k
      rw [← hx] at hcell1
      obtain ⟨y, hy⟩ : ∃ y, y = (dig n).getD (k + 1) 0 := ⟨_, rfl⟩
      have hy1 : y < 4294967296 := by rw [hy]; exact dg_get (dg_dig _) _
      have hck := HK.out.at_ (i := k) (by rw [List.length_append, HL.out, List.length_replicate]; omega)
      have hfz := HK.out.frozen k
      have hsd := half_digit n k
      rw [← hx, ← hy] at hsd
      obtain ⟨x2, hx2⟩ : ∃ x2, x2 = x / 2 := ⟨_, rfl⟩
      have hx2l : x2 < 2147483648 := by omega
      have hxe : (x : Int) / 2 = (x2 : Int) := by omega
      rw [← hx2] at hsd
      obtain ⟨t, ht⟩ : ∃ t, t = y % 2 := ⟨_, rfl⟩
      have htl : t < 2 := by omega
      rw [← ht] at hsd
      obtain ⟨d, hd⟩ : ∃ d, d = x2 + t * 2147483648 := ⟨_, rfl⟩
      have hor := u32_or_sum hx2l htl
      rw [← hd] at hsd hor
      obtain ⟨tt, htt⟩ : ∃ tt, tt = t * 2147483648 := ⟨_, rfl⟩
      have hsh : (y : Int) * 2147483648 % 4294967296 = (tt : Int) := by rw [htt, ht]; omega
      rw [← htt] at hor
      have hdB : d < B := by rw [hsd]; exact Nat.mod_lt _ (by decide)
      have hput := HK.out.put k x2
      have hset : (ds ++ List.replicate (ln n - k) 0).set k d = (ds ++ [d]) ++ List.replicate (ln n - (k + 1)) 0 := by
        have := set_next ds (ln n - k) d (by omega)
        rw [HL.out] at this
        rw [this, Nat.sub_add_eq]
      have HS := Hd.mk hset
      have hnew : val (ds ++ [d]) = n / 2 % B ^ (k + 1) := by
        rw [val_snoc, HL.out, HV.out, Nat.mod_pow_succ, hsd]
      have HN := Hd.mk hnew
      have HP := Hd.mk hput
      have HY := Hd.mk hy.symm
      by_cases hk1 : k + 1 < ln n
      · obtain ⟨a2, ha2, hcell2⟩ := (HX.out.to HB.out).at_ hk1
        cases ha2
        rw [← hy] at hcell2
        simp only [Addr.add_succ'] at hcell2
        have hk1' : (k : Int) + 1 < (ln n : Int) := by omega
        clear hx hy hx2 hd hsd hput hset hnew ht htt
        go_wp2_with fail
        refine wp_still_tail 12 (by kernel_rfl) (by kernel_rfl) (fun w2 hw2 => ?_)
        simp only [List.take_succ_cons, List.take_zero, List.drop_succ_cons, List.drop_zero]
        have HP3 : Hd (Blk w2 w.heap.size 72 (cells ((ds ++ List.replicate (ln n - k) 0).set k x2))) := ⟨by rw [hw2]; exact HP.out⟩
        have HB3 : Hd (Below w.heap.size w w2) := ⟨by rw [hw2]; exact below_drew (below_set HB.out (Nat.le_refl _) _)⟩
        have k0 := HP3.out.at_ (i := k) (by rw [List.length_set, List.length_append, HL.out, List.length_replicate]; omega)
        rw [getD_set_eq _ _ _ (by rw [List.length_append, HL.out, List.length_replicate]; omega)] at k0
        have k1 : w2.cell? (a1.add (k + 1)) = some (.int .u32 (y : Int)) := by
          obtain ⟨a3, ha3, hc3⟩ := (HX.out.to HB3.out).at_ hk1
          cases ha3
          rw [hc3, HY.out]
        simp only [Addr.add_succ'] at k1
        have f0 := HP3.out.frozen k
        have HP4 : Hd (Blk (w2.setCell ⟨w.heap.size, k, none⟩ (.int .u32 ((d : Nat) : Int))) w.heap.size 72 (cells ((ds ++ [d]) ++ List.replicate (ln n - (k + 1)) 0))) := ⟨by
          have := HP3.out.put k d
          rw [List.set_set, HS.out] at this
          exact this⟩
        clear hw2 hck hfz hcell1 hcell2
        have e9 : IntKind.i64.wrap ((k : Int) + 1) = (k : Int) + 1 := IntWalk.i64_in _ (by omega)
        have e10 : (0 : Int) ≤ (k : Int) + 1 := by omega
        have e11 : ((k : Int) + 1).toNat = k + 1 := by omega
        repeat (first | still_step)
        refine wpStill_nil ?_
        clear e9 e10 e11
        go_wp2_with fail
        go_roundw
        case rel => exact ⟨k + 1, ds ++ [d], by omega, by go_num, by rw [List.length_append, HL.out]; rfl, dg_append HDD.out (dg_one hdB), HN.out, HP4.out, below_set HB3.out (Nat.le_refl _) _⟩
        case measure => simp [intOf]; omega
      · have hk1' : ¬ (k : Int) + 1 < (ln n : Int) := by omega
        have hxd : x2 = d := by
          have : y = 0 := by rw [hy]; exact getD_zero_of_le (by rw [dig_length]; omega)
          rw [hd, ht, this]; omega
        have HP5 := HP.out
        rw [hxd, HS.out] at HP5
        have HP6 := Hd.mk HP5
        have HN6 := Hd.mk HN.out
        clear hx hy hd hsd hput hset hnew ht htt HP HP5 hxe hor hsh
        rw [hxd] at hx2
        have hxe : (x : Int) / 2 = (d : Int) := by omega
        clear hx2 hxd
        go_wp2_with fail
        go_roundw
        case rel => exact ⟨k + 1, ds ++ [d], by omega, by go_num, by rw [List.length_append, HL.out]; rfl, dg_append HDD.out (dg_one hdB), HN6.out, HP6.out, below_set HB.out (Nat.le_refl _) _⟩
        case measure => simp [intOf]; omega
    · have hke : k = ln n := by omega
      subst hke
      have hv2 : val ds = n / 2 := by
        rw [HV.out, Nat.mod_eq_of_lt (Nat.lt_of_le_of_lt (Nat.div_le_self _ _) (lt_pow_ln n))]
      have hblk : Blk wr w.heap.size 72 (cells ds) := by
        have := HK.out
        rwa [Nat.sub_self, List.replicate_zero, List.append_nil] at this
      have hc := trim_calls (some ⟨w.heap.size, 0, none⟩) (ln n) ds _ hblk.reads HDD.out (by have := HL.out; omega) (by omega)
      have hrn := hblk.reads.of_take HDD.out
      rw [HL.out, hv2] at hc
      rw [hv2] at hrn
      have hfin : ln (n / 2) ≤ ln n := ln_mono (Nat.div_le_self _ _)
      have HC := Hd.mk hc
      have HRN := Hd.mk hrn
      clear hv2 hc hrn hblk
      go_wp2_with fail
      refine HC.out.mono ?_
      rintro e w' ⟨rfl, rfl⟩
      go_wp2_with fail
      go_ret
      exact ⟨_, _, rfl, ⟨HRN.out, hfin, by omega⟩, HB.out⟩
end Go.Proofs.Ytcjcpfafalkceaa
