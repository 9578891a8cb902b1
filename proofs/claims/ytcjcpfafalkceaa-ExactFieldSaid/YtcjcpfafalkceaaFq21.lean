/- Part 21 of the texts behind this claim. -/
import Derived.Test.YtcjcpfafalkceaaFq11
import Derived.Test.YtcjcpfafalkceaaFq17
import Derived.Test.YtcjcpfafalkceaaFq20
set_option linter.unusedVariables false
namespace Go.Proofs.Ytcjcpfafalkceaa
open Go.RowKit
theorem nn_one (w : World) (t : TypeId) : NN (w.alloc (.cells #[.int .u32 1] t)) (some ⟨w.heap.size, 0, none⟩) 1 1 := by
  have h1 : dig 1 = [1] := by rw [dig_pos (by omega)]; simp [B, dig_zero]
  refine ⟨?_, by unfold ln; rw [h1]; exact Nat.le_refl _, by omega⟩
  rw [h1]
  exact Blk.reads (ds := [1]) (heap_alloc_new w (.cells #[.int .u32 1] t) : Blk _ _ t (cells [1]))
theorem ln_one_ : ln 1 = 1 := by
  have h1 := ln_word (d := 1) (by omega)
  have h2 : 0 < ln 1 := ln_pos.2 (by omega)
  omega
theorem sgn_quo {x y : Int} (hy : y ≠ 0) : ((decide (x < 0) != decide (y < 0)) && decide (0 < ln (x / y).natAbs)) = decide (x / y < 0) := by
  rw [← ediv_sign x y hy]
  congr 1
  rw [Bool.eq_iff_iff]
  simp
  omega
set_option maxHeartbeats 1000000 in
set_option maxRecDepth 100000 in
theorem rOver_calls (x y : Int) (A1 : Option Addr) (c1 : Nat) (A2 : Option Addr) (c2 : Nat) (w : World) (h1 : NN w A1 c1 x.natAbs) (h2 : NN w A2 c2 y.natAbs) (hy : y ≠ 0) (l1 : ln x.natAbs ≤ 268435456) (l2 : ln y.natAbs ≤ 268435456) :
    Calls Try.prog 45 #[.agg #[.bool (decide (x < 0)), .slice A1 (ln x.natAbs) c1], .agg #[.bool (decide (y < 0)), .slice A2 (ln y.natAbs) c2]] w (RetZZ (x / y) (x % y) w) := by
  have hn0 : y.natAbs ≠ 0 := by omega
  have H2 := Hd.mk h2
  have HD := Hd.mk (fun W (hW : Below w.heap.size w W) => divided_calls A1 c1 x.natAbs A2 c2 y.natAbs W (h1.to hW) (h2.to hW) hn0 l1 l2)
  obtain ⟨e1, e2⟩ := ediv_abs x y hy
  have hsg := sgn_quo (x := x) hy
  have hrs := emod_sign x y hy
  have hlq : ln (x.natAbs / y.natAbs) ≤ 268435456 := Nat.le_trans (ln_mono (Nat.div_le_self _ _)) l1
  have hrl : x.natAbs % y.natAbs ≤ y.natAbs := Nat.le_of_lt (Nat.mod_lt _ (by omega))
  unfold RetZZ
  rw [hrs]
  obtain ⟨Q, hQ⟩ : ∃ Q, Q = x.natAbs / y.natAbs := ⟨_, rfl⟩
  obtain ⟨R, hR⟩ : ∃ R, R = x.natAbs % y.natAbs := ⟨_, rfl⟩
  rw [← hQ] at e1 e2 hlq HD
  rw [← hR] at e1 e2 hrl HD
  have hlrn : ln R ≤ 9223372036854775807 := by have := ln_mono hrl; omega
  by_cases hx : x < 0 ∧ R ≠ 0
  · obtain ⟨f1, f2⟩ := e1 hx.1 hx.2
    rw [f1] at hsg ⊢
    rw [f2]
    have hx1 : decide (x < 0) = true := decide_eq_true hx.1
    have hlr : (0 : Int) < (ln R : Int) := by have : 0 < ln R := ln_pos.2 (by omega); omega
    rw [hx1] at hsg ⊢
    have HP := Hd.mk (fun W A c A' c' (h1 : NN W A c Q) (h2 : NN W A' c' 1) => rplus_calls A c Q A' c' 1 W h1 h2 (by omega) (by have := ln_word (d := 1) (by omega); omega))
    rw [ln_one_] at HP
    have HS := Hd.mk (fun W A c (hW : Below w.heap.size w W) (h2 : NN W A c R) => rless_calls A2 c2 y.natAbs A c R W (H2.out.to hW) h2 hrl (by omega))
    have hQl : ln (Q + 1) ≤ 9223372036854775807 := by have := ln_add Q 1; have := ln_word (d := 1) (by omega); omega
    obtain ⟨b2, hb2⟩ : ∃ b, b = decide (y < 0) := ⟨_, rfl⟩
    obtain ⟨b3, hb3⟩ : ∃ b, b = decide (x / y < 0) := ⟨_, rfl⟩
    rw [← hb2] at hsg ⊢
    rw [← hb3] at hsg ⊢
    obtain ⟨M, hM⟩ : ∃ M, M = y.natAbs := ⟨_, rfl⟩
    rw [← hM] at HD HS l2 hrl ⊢
    obtain ⟨N, hN⟩ : ∃ N, N = x.natAbs := ⟨_, rfl⟩
    rw [← hN] at HD l1 ⊢
    obtain ⟨qq, hq2⟩ : ∃ q2, q2 = Q + 1 := ⟨_, rfl⟩
    rw [← hq2] at hsg hQl HP ⊢
    obtain ⟨r2, hr2⟩ : ∃ r2, r2 = M - R := ⟨_, rfl⟩
    have hr2l : ln r2 ≤ 9223372036854775807 := by have := ln_mono (show r2 ≤ M by omega); omega
    rw [← hr2] at HS ⊢
    rw [show (true != b2) = !b2 from by cases b2 <;> rfl] at hsg
    have HSG := Hd.mk hsg
    clear hx e1 e2 f1 f2 hQ hR hx1 h1 h2 H2 hb2 hb3 hM hN hrl hq2 hr2 hn0 hy hrs hsg
    go_enter Try.func45, Try.ntmps45
    go_wp2_with fail
    obtain ⟨W0, hW0⟩ : ∃ W : World, W = (((w.alloc (.cells #[.bool true, .slice A1 (ln N) c1] 38)).alloc (.cells #[.bool b2, .slice A2 (ln M) c2] 38)).alloc (.cells #[.bool false, .slice none 0 0] 38)).alloc (.cells #[.bool false, .slice none 0 0] 38) := ⟨_, rfl⟩
    rw [← hW0]
    have HSZ : Hd (w.heap.size + 1 + 1 + 1 + 1 = W0.heap.size) := ⟨by rw [hW0]; simp⟩
    obtain ⟨hB0, hB1, hB2, hB3, hBW⟩ := boxes4 hW0
    have q0 := hB0.c0
    have q1 := hB0.c1
    have q2 := hB1.c0
    have q3 := hB1.c1
    have g0 := hB2.c0
    have g1 := hB2.c1
    have u0 := hB2.f0
    have u1 := hB2.f1
    have p0 := hB3.c0
    have p1 := hB3.c1
    have v0 := hB3.f0
    have v1 := hB3.f1
    have Q0 := Hd.mk hB0
    have Q1 := Hd.mk hB1
    have QR := Hd.mk hB2
    have QS := Hd.mk hB3
    have HW := Hd.mk hBW
    have HB : Hd (Below W0.heap.size W0 W0) := ⟨Below.refl _ _⟩
    clear hB0 hB1 hB2 hB3 hBW hW0
    refine (HD.out _ (bel_then HW.out (by repeat (first | exact HB.out | exact Below.refl _ _ | refine below_alloc ?_ _ | refine below_drewN ?_ _ | refine below_drew ?_ | refine below_set ?_ (by first | exact Nat.le_refl _ | omega | (simp; done) | (simp; omega)) _)))).mono ?_
    rintro e w1 ⟨A3, c3, A4, c4, rfl, hn3, hn4, hb⟩
    have HN3 := Hd.mk hn3
    have HN4 := Hd.mk hn4
    clear hn3 hn4
    have HB' : Hd (Below W0.heap.size W0 _) := ⟨bel_then (by repeat (first | exact HB.out | exact Below.refl _ _ | refine below_alloc ?_ _ | refine below_drewN ?_ _ | refine below_drew ?_ | refine below_set ?_ (by first | exact Nat.le_refl _ | omega | (simp; done) | (simp; omega)) _)) hb⟩; clear HB; have HB := HB'; clear HB' hb; replace q0 := (Q0.out.to HB.out).c0; replace q1 := (Q0.out.to HB.out).c1; replace q2 := (Q1.out.to HB.out).c0; replace q3 := (Q1.out.to HB.out).c1; replace g0 := (QR.out.to HB.out).c0; replace g1 := (QR.out.to HB.out).c1; replace u0 := (QR.out.to HB.out).f0; replace u1 := (QR.out.to HB.out).f1; replace p0 := (QS.out.to HB.out).c0; replace p1 := (QS.out.to HB.out).c1; replace v0 := (QS.out.to HB.out).f0; replace v1 := (QS.out.to HB.out).f1
    go_wp2_with fail
    have hb : Below w1.heap.size w1 (w1.alloc (.cells #[.int .u32 1] 72)) := below_alloc (Below.refl _ _) _
    refine (HP.out _ _ _ _ _ (HN3.out.to hb) (nn_one w1 _)).mono ?_
    rintro e w2 ⟨A5, c5, rfl, hn5, hb2⟩
    have HN5 := Hd.mk hn5
    replace hb := bel_then hb hb2
    replace HN4 := Hd.mk (HN4.out.to hb)
    clear hn5 hb2 HN3
    have HB' : Hd (Below W0.heap.size W0 _) := ⟨bel_then (by repeat (first | exact HB.out | exact Below.refl _ _ | refine below_alloc ?_ _ | refine below_drewN ?_ _ | refine below_drew ?_ | refine below_set ?_ (by first | exact Nat.le_refl _ | omega | (simp; done) | (simp; omega)) _)) hb⟩; clear HB; have HB := HB'; clear HB' hb; replace q0 := (Q0.out.to HB.out).c0; replace q1 := (Q0.out.to HB.out).c1; replace q2 := (Q1.out.to HB.out).c0; replace q3 := (Q1.out.to HB.out).c1; replace g0 := (QR.out.to HB.out).c0; replace g1 := (QR.out.to HB.out).c1; replace u0 := (QR.out.to HB.out).f0; replace u1 := (QR.out.to HB.out).f1; replace p0 := (QS.out.to HB.out).c0; replace p1 := (QS.out.to HB.out).c1; replace v0 := (QS.out.to HB.out).f0; replace v1 := (QS.out.to HB.out).f1
    go_wp2_with fail
    refine (HS.out _ _ _ (bel_then HW.out HB.out) HN4.out).mono ?_
    rintro e w3 ⟨A6, c6, rfl, hn6, hb⟩
    have HN6 := Hd.mk hn6
    replace HN5 := Hd.mk (HN5.out.to hb)
    clear hn6 HN4
    have HB' : Hd (Below W0.heap.size W0 _) := ⟨bel_then (by repeat (first | exact HB.out | exact Below.refl _ _ | refine below_alloc ?_ _ | refine below_drewN ?_ _ | refine below_drew ?_ | refine below_set ?_ (by first | exact Nat.le_refl _ | omega | (simp; done) | (simp; omega)) _)) hb⟩; clear HB; have HB := HB'; clear HB' hb; replace q0 := (Q0.out.to HB.out).c0; replace q1 := (Q0.out.to HB.out).c1; replace q2 := (Q1.out.to HB.out).c0; replace q3 := (Q1.out.to HB.out).c1; replace g0 := (QR.out.to HB.out).c0; replace g1 := (QR.out.to HB.out).c1; replace u0 := (QR.out.to HB.out).f0; replace u1 := (QR.out.to HB.out).f1; replace p0 := (QS.out.to HB.out).c0; replace p1 := (QS.out.to HB.out).c1; replace v0 := (QS.out.to HB.out).f0; replace v1 := (QS.out.to HB.out).f1
    go_wp2_with fail
    with_reducible refine (signed_calls (!b2) b3 A5 (ln qq) c5 _ hQl HSG.out).mono ?_
    rintro e w4 ⟨rfl, hb⟩
    replace HN5 := Hd.mk (HN5.out.to hb)
    replace HN6 := Hd.mk (HN6.out.to hb)
    have HB' : Hd (Below W0.heap.size W0 _) := ⟨bel_then (by repeat (first | exact HB.out | exact Below.refl _ _ | refine below_alloc ?_ _ | refine below_drewN ?_ _ | refine below_drew ?_ | refine below_set ?_ (by first | exact Nat.le_refl _ | omega | (simp; done) | (simp; omega)) _)) hb⟩; clear HB; have HB := HB'; clear HB' hb; replace q0 := (Q0.out.to HB.out).c0; replace q1 := (Q0.out.to HB.out).c1; replace q2 := (Q1.out.to HB.out).c0; replace q3 := (Q1.out.to HB.out).c1; replace g0 := (QR.out.to HB.out).c0; replace g1 := (QR.out.to HB.out).c1; replace u0 := (QR.out.to HB.out).f0; replace u1 := (QR.out.to HB.out).f1; replace p0 := (QS.out.to HB.out).c0; replace p1 := (QS.out.to HB.out).c1; replace v0 := (QS.out.to HB.out).f0; replace v1 := (QS.out.to HB.out).f1
    go_wp2_with fail
    with_reducible refine (signed_calls false false A6 (ln r2) c6 _ hr2l rfl).mono ?_
    rintro e w5 ⟨rfl, hb⟩
    replace HN5 := Hd.mk (HN5.out.to hb)
    replace HN6 := Hd.mk (HN6.out.to hb)
    have HB' : Hd (Below W0.heap.size W0 _) := ⟨bel_then (by repeat (first | exact HB.out | exact Below.refl _ _ | refine below_alloc ?_ _ | refine below_drewN ?_ _ | refine below_drew ?_ | refine below_set ?_ (by first | exact Nat.le_refl _ | omega | (simp; done) | (simp; omega)) _)) hb⟩; clear HB; have HB := HB'; clear HB' hb; replace q0 := (Q0.out.to HB.out).c0; replace q1 := (Q0.out.to HB.out).c1; replace q2 := (Q1.out.to HB.out).c0; replace q3 := (Q1.out.to HB.out).c1; replace g0 := (QR.out.to HB.out).c0; replace g1 := (QR.out.to HB.out).c1; replace u0 := (QR.out.to HB.out).f0; replace u1 := (QR.out.to HB.out).f1; replace p0 := (QS.out.to HB.out).c0; replace p1 := (QS.out.to HB.out).c1; replace v0 := (QS.out.to HB.out).f0; replace v1 := (QS.out.to HB.out).f1
    go_wp2_with fail
    obtain ⟨k0, k1, k2, k3, k4, k5, k6⟩ := four_set g0 g1 p0 p1 (show w.heap.size + 1 + 1 ≠ w.heap.size + 1 + 1 + 1 by omega) (.bool b3) (.slice A5 (ln qq) c5) (.bool false) (.slice A6 (ln r2) c6)
    refine bodyPost_ret (v := .tuple #[.agg #[.bool b3, .slice A5 (ln qq) c5], .agg #[.bool false, .slice A6 (ln r2) c6]]) (by simp [results, Try.results45, go_sem, k0, k1, k2, k3]) rfl ?_
    exact ⟨_, _, _, _, rfl, (((HN5.out.set_ g0 (by intro t; simp) _).set_ k4 (by intro t; simp) _).set_ k5 (by intro t; simp) _).set_ k6 (by intro t; simp) _, (((HN6.out.set_ g0 (by intro t; simp) _).set_ k4 (by intro t; simp) _).set_ k5 (by intro t; simp) _).set_ k6 (by intro t; simp) _, (by repeat (first | exact bel_then HW.out HB.out | refine below_set ?_ (by first | exact Nat.le_refl _ | omega | (simp; done) | (simp; omega)) _ | refine below_alloc ?_ _ | refine below_drewN ?_ _ | refine below_drew ?_))⟩
  · obtain ⟨f1, f2⟩ := e2 hx
    rw [f1] at hsg ⊢
    rw [f2]
    have hQl : ln Q ≤ 9223372036854775807 := by omega
    obtain ⟨b1, hb1⟩ : ∃ b, b = decide (x < 0) := ⟨_, rfl⟩
    have hbb : b1 = true → ¬ (0 : Int) < (ln R : Int) := fun h => by
      have h1 : x < 0 := by rw [h] at hb1; exact of_decide_eq_true hb1.symm
      have h2 : R = 0 := by
        by_cases h0 : R = 0
        · exact h0
        · exact absurd ⟨h1, h0⟩ hx
      rw [h2, ln_zero]
      omega
    obtain ⟨b2, hb2⟩ : ∃ b, b = decide (y < 0) := ⟨_, rfl⟩
    obtain ⟨b3, hb3⟩ : ∃ b, b = decide (x / y < 0) := ⟨_, rfl⟩
    rw [← hb1, ← hb2] at hsg ⊢
    rw [← hb3] at hsg ⊢
    obtain ⟨M, hM⟩ : ∃ M, M = y.natAbs := ⟨_, rfl⟩
    rw [← hM] at HD l2 hrl ⊢
    obtain ⟨N, hN⟩ : ∃ N, N = x.natAbs := ⟨_, rfl⟩
    rw [← hN] at HD l1 ⊢
    have HSG := Hd.mk hsg
    have HBB := Hd.mk hbb
    clear hx e1 e2 f1 f2 hQ hR hb1 h1 h2 H2 hb2 hb3 hM hN hrl hn0 hy hrs hsg hbb
    go_enter Try.func45, Try.ntmps45
    go_wp2_with fail
    obtain ⟨W0, hW0⟩ : ∃ W : World, W = (((w.alloc (.cells #[.bool b1, .slice A1 (ln N) c1] 38)).alloc (.cells #[.bool b2, .slice A2 (ln M) c2] 38)).alloc (.cells #[.bool false, .slice none 0 0] 38)).alloc (.cells #[.bool false, .slice none 0 0] 38) := ⟨_, rfl⟩
    rw [← hW0]
    have HSZ : Hd (w.heap.size + 1 + 1 + 1 + 1 = W0.heap.size) := ⟨by rw [hW0]; simp⟩
    obtain ⟨hB0, hB1, hB2, hB3, hBW⟩ := boxes4 hW0
    have q0 := hB0.c0
    have q1 := hB0.c1
    have q2 := hB1.c0
    have q3 := hB1.c1
    have g0 := hB2.c0
    have g1 := hB2.c1
    have u0 := hB2.f0
    have u1 := hB2.f1
    have p0 := hB3.c0
    have p1 := hB3.c1
    have v0 := hB3.f0
    have v1 := hB3.f1
    have Q0 := Hd.mk hB0
    have Q1 := Hd.mk hB1
    have QR := Hd.mk hB2
    have QS := Hd.mk hB3
    have HW := Hd.mk hBW
    have HB : Hd (Below W0.heap.size W0 W0) := ⟨Below.refl _ _⟩
    clear hB0 hB1 hB2 hB3 hBW hW0
    refine (HD.out _ (bel_then HW.out (by repeat (first | exact HB.out | exact Below.refl _ _ | refine below_alloc ?_ _ | refine below_drewN ?_ _ | refine below_drew ?_ | refine below_set ?_ (by first | exact Nat.le_refl _ | omega | (simp; done) | (simp; omega)) _)))).mono ?_
    rintro e w1 ⟨A3, c3, A4, c4, rfl, hn3, hn4, hb⟩
    have HN3 := Hd.mk hn3
    have HN4 := Hd.mk hn4
    clear hn3 hn4
    have HB' : Hd (Below W0.heap.size W0 _) := ⟨bel_then (by repeat (first | exact HB.out | exact Below.refl _ _ | refine below_alloc ?_ _ | refine below_drewN ?_ _ | refine below_drew ?_ | refine below_set ?_ (by first | exact Nat.le_refl _ | omega | (simp; done) | (simp; omega)) _)) hb⟩; clear HB; have HB := HB'; clear HB' hb; replace q0 := (Q0.out.to HB.out).c0; replace q1 := (Q0.out.to HB.out).c1; replace q2 := (Q1.out.to HB.out).c0; replace q3 := (Q1.out.to HB.out).c1; replace g0 := (QR.out.to HB.out).c0; replace g1 := (QR.out.to HB.out).c1; replace u0 := (QR.out.to HB.out).f0; replace u1 := (QR.out.to HB.out).f1; replace p0 := (QS.out.to HB.out).c0; replace p1 := (QS.out.to HB.out).c1; replace v0 := (QS.out.to HB.out).f0; replace v1 := (QS.out.to HB.out).f1
    rcases b1 with _ | _
    · have HS2 : (b2 && decide (0 < ln Q)) = b3 := by have := HSG.out; rwa [show (false != b2) = b2 from by cases b2 <;> rfl] at this
      clear HSG
      replace HS2 := Hd.mk HS2
      go_wp2_with fail
      with_reducible refine (signed_calls b2 b3 A3 (ln Q) c3 _ hQl HS2.out).mono ?_
      rintro e w4 ⟨rfl, hb⟩
      replace HN3 := Hd.mk (HN3.out.to hb)
      replace HN4 := Hd.mk (HN4.out.to hb)
      have HB' : Hd (Below W0.heap.size W0 _) := ⟨bel_then (by repeat (first | exact HB.out | exact Below.refl _ _ | refine below_alloc ?_ _ | refine below_drewN ?_ _ | refine below_drew ?_ | refine below_set ?_ (by first | exact Nat.le_refl _ | omega | (simp; done) | (simp; omega)) _)) hb⟩; clear HB; have HB := HB'; clear HB' hb; replace q0 := (Q0.out.to HB.out).c0; replace q1 := (Q0.out.to HB.out).c1; replace q2 := (Q1.out.to HB.out).c0; replace q3 := (Q1.out.to HB.out).c1; replace g0 := (QR.out.to HB.out).c0; replace g1 := (QR.out.to HB.out).c1; replace u0 := (QR.out.to HB.out).f0; replace u1 := (QR.out.to HB.out).f1; replace p0 := (QS.out.to HB.out).c0; replace p1 := (QS.out.to HB.out).c1; replace v0 := (QS.out.to HB.out).f0; replace v1 := (QS.out.to HB.out).f1
      go_wp2_with fail
      with_reducible refine (signed_calls false false A4 (ln R) c4 _ hlrn rfl).mono ?_
      rintro e w5 ⟨rfl, hb⟩
      replace HN3 := Hd.mk (HN3.out.to hb)
      replace HN4 := Hd.mk (HN4.out.to hb)
      have HB' : Hd (Below W0.heap.size W0 _) := ⟨bel_then (by repeat (first | exact HB.out | exact Below.refl _ _ | refine below_alloc ?_ _ | refine below_drewN ?_ _ | refine below_drew ?_ | refine below_set ?_ (by first | exact Nat.le_refl _ | omega | (simp; done) | (simp; omega)) _)) hb⟩; clear HB; have HB := HB'; clear HB' hb; replace q0 := (Q0.out.to HB.out).c0; replace q1 := (Q0.out.to HB.out).c1; replace q2 := (Q1.out.to HB.out).c0; replace q3 := (Q1.out.to HB.out).c1; replace g0 := (QR.out.to HB.out).c0; replace g1 := (QR.out.to HB.out).c1; replace u0 := (QR.out.to HB.out).f0; replace u1 := (QR.out.to HB.out).f1; replace p0 := (QS.out.to HB.out).c0; replace p1 := (QS.out.to HB.out).c1; replace v0 := (QS.out.to HB.out).f0; replace v1 := (QS.out.to HB.out).f1
      go_wp2_with fail
      obtain ⟨k0, k1, k2, k3, k4, k5, k6⟩ := four_set g0 g1 p0 p1 (show w.heap.size + 1 + 1 ≠ w.heap.size + 1 + 1 + 1 by omega) (.bool b3) (.slice A3 (ln Q) c3) (.bool false) (.slice A4 (ln R) c4)
      refine bodyPost_ret (v := .tuple #[.agg #[.bool b3, .slice A3 (ln Q) c3], .agg #[.bool false, .slice A4 (ln R) c4]]) (by simp [results, Try.results45, go_sem, k0, k1, k2, k3]) rfl ?_
      exact ⟨_, _, _, _, rfl, (((HN3.out.set_ g0 (by intro t; simp) _).set_ k4 (by intro t; simp) _).set_ k5 (by intro t; simp) _).set_ k6 (by intro t; simp) _, (((HN4.out.set_ g0 (by intro t; simp) _).set_ k4 (by intro t; simp) _).set_ k5 (by intro t; simp) _).set_ k6 (by intro t; simp) _, (by repeat (first | exact bel_then HW.out HB.out | refine below_set ?_ (by first | exact Nat.le_refl _ | omega | (simp; done) | (simp; omega)) _ | refine below_alloc ?_ _ | refine below_drewN ?_ _ | refine below_drew ?_))⟩
    · have hr0 := HBB.out rfl
      have HS2 : (!b2 && decide (0 < ln Q)) = b3 := by have := HSG.out; rwa [show (true != b2) = !b2 from by cases b2 <;> rfl] at this
      clear HSG
      replace HS2 := Hd.mk HS2
      go_wp2_with fail
      with_reducible refine (signed_calls (!b2) b3 A3 (ln Q) c3 _ hQl HS2.out).mono ?_
      rintro e w4 ⟨rfl, hb⟩
      replace HN3 := Hd.mk (HN3.out.to hb)
      replace HN4 := Hd.mk (HN4.out.to hb)
      have HB' : Hd (Below W0.heap.size W0 _) := ⟨bel_then (by repeat (first | exact HB.out | exact Below.refl _ _ | refine below_alloc ?_ _ | refine below_drewN ?_ _ | refine below_drew ?_ | refine below_set ?_ (by first | exact Nat.le_refl _ | omega | (simp; done) | (simp; omega)) _)) hb⟩; clear HB; have HB := HB'; clear HB' hb; replace q0 := (Q0.out.to HB.out).c0; replace q1 := (Q0.out.to HB.out).c1; replace q2 := (Q1.out.to HB.out).c0; replace q3 := (Q1.out.to HB.out).c1; replace g0 := (QR.out.to HB.out).c0; replace g1 := (QR.out.to HB.out).c1; replace u0 := (QR.out.to HB.out).f0; replace u1 := (QR.out.to HB.out).f1; replace p0 := (QS.out.to HB.out).c0; replace p1 := (QS.out.to HB.out).c1; replace v0 := (QS.out.to HB.out).f0; replace v1 := (QS.out.to HB.out).f1
      go_wp2_with fail
      with_reducible refine (signed_calls false false A4 (ln R) c4 _ hlrn rfl).mono ?_
      rintro e w5 ⟨rfl, hb⟩
      replace HN3 := Hd.mk (HN3.out.to hb)
      replace HN4 := Hd.mk (HN4.out.to hb)
      have HB' : Hd (Below W0.heap.size W0 _) := ⟨bel_then (by repeat (first | exact HB.out | exact Below.refl _ _ | refine below_alloc ?_ _ | refine below_drewN ?_ _ | refine below_drew ?_ | refine below_set ?_ (by first | exact Nat.le_refl _ | omega | (simp; done) | (simp; omega)) _)) hb⟩; clear HB; have HB := HB'; clear HB' hb; replace q0 := (Q0.out.to HB.out).c0; replace q1 := (Q0.out.to HB.out).c1; replace q2 := (Q1.out.to HB.out).c0; replace q3 := (Q1.out.to HB.out).c1; replace g0 := (QR.out.to HB.out).c0; replace g1 := (QR.out.to HB.out).c1; replace u0 := (QR.out.to HB.out).f0; replace u1 := (QR.out.to HB.out).f1; replace p0 := (QS.out.to HB.out).c0; replace p1 := (QS.out.to HB.out).c1; replace v0 := (QS.out.to HB.out).f0; replace v1 := (QS.out.to HB.out).f1
      go_wp2_with fail
      obtain ⟨k0, k1, k2, k3, k4, k5, k6⟩ := four_set g0 g1 p0 p1 (show w.heap.size + 1 + 1 ≠ w.heap.size + 1 + 1 + 1 by omega) (.bool b3) (.slice A3 (ln Q) c3) (.bool false) (.slice A4 (ln R) c4)
      refine bodyPost_ret (v := .tuple #[.agg #[.bool b3, .slice A3 (ln Q) c3], .agg #[.bool false, .slice A4 (ln R) c4]]) (by simp [results, Try.results45, go_sem, k0, k1, k2, k3]) rfl ?_
      exact ⟨_, _, _, _, rfl, (((HN3.out.set_ g0 (by intro t; simp) _).set_ k4 (by intro t; simp) _).set_ k5 (by intro t; simp) _).set_ k6 (by intro t; simp) _, (((HN4.out.set_ g0 (by intro t; simp) _).set_ k4 (by intro t; simp) _).set_ k5 (by intro t; simp) _).set_ k6 (by intro t; simp) _, (by repeat (first | exact bel_then HW.out HB.out | refine below_set ?_ (by first | exact Nat.le_refl _ | omega | (simp; done) | (simp; omega)) _ | refine below_alloc ?_ _ | refine below_drewN ?_ _ | refine below_drew ?_))⟩
end Go.Proofs.Ytcjcpfafalkceaa
