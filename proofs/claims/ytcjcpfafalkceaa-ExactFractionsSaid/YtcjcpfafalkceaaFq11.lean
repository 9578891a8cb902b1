/- Part 11 of the texts behind this claim. -/
import Derived.Test.YtcjcpfafalkceaaFq9
set_option linter.unusedVariables false
namespace Go.Proofs.Ytcjcpfafalkceaa
open Go.RowKit
theorem sgn_same (x y : Int) (h : decide (x < 0) = decide (y < 0)) : (decide (x < 0) && decide (0 < ln (x + y).natAbs)) = decide (x + y < 0) := by
  rw [decide_eq_decide] at h
  rw [Bool.eq_iff_iff]
  simp only [Bool.and_eq_true, decide_eq_true_eq, ln_pos]
  omega
theorem sgn_left (x y : Int) (h : ¬ decide (x < 0) = decide (y < 0)) (hle : y.natAbs ≤ x.natAbs) : (decide (x < 0) && decide (0 < ln (x + y).natAbs)) = decide (x + y < 0) := by
  rw [decide_eq_decide] at h
  rw [Bool.eq_iff_iff]
  simp only [Bool.and_eq_true, decide_eq_true_eq, ln_pos]
  omega
theorem sgn_right (x y : Int) (h : ¬ decide (x < 0) = decide (y < 0)) (hle : x.natAbs < y.natAbs) : (decide (y < 0) && decide (0 < ln (x + y).natAbs)) = decide (x + y < 0) := by
  rw [decide_eq_decide] at h
  rw [Bool.eq_iff_iff]
  simp only [Bool.and_eq_true, decide_eq_true_eq, ln_pos]
  omega
set_option maxHeartbeats 1000000 in
set_option maxRecDepth 100000 in
theorem rPlus_calls (x y : Int) (A1 : Option Addr) (c1 : Nat) (A2 : Option Addr) (c2 : Nat) (w : World) (h1 : NN w A1 c1 x.natAbs) (h2 : NN w A2 c2 y.natAbs) (l1 : ln x.natAbs ≤ 1073741824) (l2 : ln y.natAbs ≤ 1073741824) :
    Calls Try.prog 33 #[.agg #[.bool (decide (x < 0)), .slice A1 (ln x.natAbs) c1], .agg #[.bool (decide (y < 0)), .slice A2 (ln y.natAbs) c2]] w (RetZ (x + y) w) := by
  obtain ⟨b3, hb3⟩ : ∃ b, b = decide (x + y < 0) := ⟨_, rfl⟩
  have HB3 := Hd.mk hb3
  by_cases hs : decide (x < 0) = decide (y < 0)
  · have HS := Hd.mk (sgn_same x y hs)
    have HT := Hd.mk (fun W (hW : Below w.heap.size w W) => rplus_calls A1 c1 x.natAbs A2 c2 y.natAbs W (h1.to hW) (h2.to hW) (by omega) (by omega))
    have e : x.natAbs + y.natAbs = (x + y).natAbs := by rw [decide_eq_decide] at hs; omega
    rw [e] at HT
    obtain ⟨b1, hb1⟩ : ∃ b, b = decide (x < 0) := ⟨_, rfl⟩
    rw [← hb1, ← hb3] at HS
    rw [← hs, ← hb1]
    have hbb : (b1 == b1) = true := by simp
    clear h1 h2 hb1 hb3 hs e
    go_enter Try.func33, Try.ntmps33
    go_wp2_with fail
    obtain ⟨W0, hW0⟩ : ∃ W : World, W = ((w.alloc (.cells #[.bool b1, .slice A1 (ln x.natAbs) c1] 38)).alloc (.cells #[.bool b1, .slice A2 (ln y.natAbs) c2] 38)).alloc (.cells #[.bool false, .slice none 0 0] 38) := ⟨_, rfl⟩
    rw [← hW0]
    have HSZ : Hd (w.heap.size + 1 + 1 + 1 = W0.heap.size) := ⟨by rw [hW0]; simp⟩
    obtain ⟨hB0, hB1, hB2, hBW⟩ := boxes3 hW0
    have q0 := hB0.c0
    have q1 := hB0.c1
    have q2 := hB1.c0
    have q3 := hB1.c1
    have g0 := hB2.c0
    have g1 := hB2.c1
    have u0 := hB2.f0
    have u1 := hB2.f1
    have Q0 := Hd.mk hB0
    have Q1 := Hd.mk hB1
    have QR := Hd.mk hB2
    have HW := Hd.mk hBW
    have HB : Hd (Below W0.heap.size W0 W0) := ⟨Below.refl _ _⟩
    clear hB0 hB1 hB2 hBW hW0
    go_region_held3 (fun w' => w'.cell? ⟨w.heap.size, 0, none⟩ = some (.bool b1) ∧ w'.cell? ⟨w.heap.size, 1, none⟩ = some (.slice A1 (ln x.natAbs) c1) ∧ w'.cell? ⟨w.heap.size + 1, 0, none⟩ = some (.bool b1) ∧ w'.cell? ⟨w.heap.size + 1, 1, none⟩ = some (.slice A2 (ln y.natAbs) c2)) (first | exact ⟨q0, q1, q2, q3⟩ | (repeat' apply And.intro) <;> (first | exact q0 | exact q1 | exact q2 | exact q3 | (go_keep; done) | (rw [World.cell?_setCell_far _ _ _ _ (by first | (simp; done) | (simp; omega)), World.cell?_setCell_far _ _ _ _ (by first | (simp; done) | (simp; omega))]; first | exact q0 | exact q1 | exact q2 | exact q3)))
      (first | (go_at_call 83; refine (HT.out _ (bel_then HW.out (by repeat (first | exact HB.out | exact Below.refl _ _ | refine below_alloc ?_ _ | refine below_drewN ?_ _ | refine below_drew ?_ | refine below_set ?_ (by first | exact Nat.le_refl _ | omega | (simp; done) | (simp; omega)) _)))).mono ?_; rintro e w1 ⟨A3, c3, rfl, hn1, hb1⟩; have hl3 := Nat.le_trans hn1.2.1 hn1.2.2; have HN1 := Hd.mk hn1; clear hn1; have HB' : Hd (Below W0.heap.size W0 _) := ⟨bel_then (by repeat (first | exact HB.out | exact Below.refl _ _ | refine below_alloc ?_ _ | refine below_drewN ?_ _ | refine below_drew ?_ | refine below_set ?_ (by first | exact Nat.le_refl _ | omega | (simp; done) | (simp; omega)) _)) hb1⟩; clear HB; have HB := HB'; clear HB' hb1; replace q0 := (Q0.out.to HB.out).c0; replace q1 := (Q0.out.to HB.out).c1; replace q2 := (Q1.out.to HB.out).c0; replace q3 := (Q1.out.to HB.out).c1; replace g0 := (QR.out.to HB.out).c0; replace g1 := (QR.out.to HB.out).c1; replace u0 := (QR.out.to HB.out).f0; replace u1 := (QR.out.to HB.out).f1) | (go_at_call 81; refine (signed_calls b1 b3 _ _ _ _ hl3 HS.out).mono ?_; rintro e w2 ⟨rfl, hb2⟩; have HN := Hd.mk (HN1.out.to hb2); clear HN1; have HB' : Hd (Below W0.heap.size W0 _) := ⟨bel_then (by repeat (first | exact HB.out | exact Below.refl _ _ | refine below_alloc ?_ _ | refine below_drewN ?_ _ | refine below_drew ?_ | refine below_set ?_ (by first | exact Nat.le_refl _ | omega | (simp; done) | (simp; omega)) _)) hb2⟩; clear HB; have HB := HB'; clear HB' hb2; replace q0 := (Q0.out.to HB.out).c0; replace q1 := (Q0.out.to HB.out).c1; replace q2 := (Q1.out.to HB.out).c0; replace q3 := (Q1.out.to HB.out).c1; replace g0 := (QR.out.to HB.out).c0; replace g1 := (QR.out.to HB.out).c1; replace u0 := (QR.out.to HB.out).f0; replace u1 := (QR.out.to HB.out).f1))
    go_wp2_with fail
    obtain ⟨k0, k1, k2⟩ := two_set g0 g1 (.bool b3) (.slice A3 (ln (x + y).natAbs) c3)
    refine bodyPost_ret (v := .agg #[.bool b3, .slice A3 (ln (x + y).natAbs) c3]) (by simp [results, Try.results33, go_sem, k0, k1]) rfl ?_
    exact ⟨A3, c3, by rw [HB3.out], (HN.out.set_ g0 (by intro t; simp) _).set_ k2 (by intro t; simp) _, (by repeat (first | exact bel_then HW.out HB.out | refine below_set ?_ (by first | exact Nat.le_refl _ | omega | (simp; done) | (simp; omega)) _ | refine below_alloc ?_ _ | refine below_drewN ?_ _ | refine below_drew ?_))⟩
  · have hbn : ∃ b1 b2, b1 = decide (x < 0) ∧ b2 = decide (y < 0) ∧ (b1 == b2) = false := ⟨_, _, rfl, rfl, by simpa using hs⟩
    obtain ⟨b1, b2, hb1, hb2, hbb⟩ := hbn
    have HC := Hd.mk (fun W (hW : Below w.heap.size w W) => order_calls A1 c1 x.natAbs A2 c2 y.natAbs W (h1.to hW) (h2.to hW))
    by_cases hle : y.natAbs ≤ x.natAbs
    · have HS := Hd.mk (sgn_left x y hs hle)
      have HT := Hd.mk (fun W (hW : Below w.heap.size w W) => rless_calls A1 c1 x.natAbs A2 c2 y.natAbs W (h1.to hW) (h2.to hW) hle (by omega))
      have e : x.natAbs - y.natAbs = (x + y).natAbs := by rw [decide_eq_decide] at hs; omega
      obtain ⟨v, hv⟩ : ∃ v, v = cmpv x.natAbs y.natAbs := ⟨_, rfl⟩
      have hv0 : 0 ≤ v := by rw [hv]; unfold cmpv; rw [if_neg (by omega)]; split <;> omega
      have HV := Hd.mk hv
      rw [e] at HT
      rw [← hb1, ← hb2]
      rw [← hb1, ← hb3] at HS
      clear h1 h2 hb1 hb2 hb3 hs e hv hle
      go_enter Try.func33, Try.ntmps33
      go_wp2_with fail
      obtain ⟨W0, hW0⟩ : ∃ W : World, W = ((w.alloc (.cells #[.bool b1, .slice A1 (ln x.natAbs) c1] 38)).alloc (.cells #[.bool b2, .slice A2 (ln y.natAbs) c2] 38)).alloc (.cells #[.bool false, .slice none 0 0] 38) := ⟨_, rfl⟩
      rw [← hW0]
      have HSZ : Hd (w.heap.size + 1 + 1 + 1 = W0.heap.size) := ⟨by rw [hW0]; simp⟩
      obtain ⟨hB0, hB1, hB2, hBW⟩ := boxes3 hW0
      have q0 := hB0.c0
      have q1 := hB0.c1
      have q2 := hB1.c0
      have q3 := hB1.c1
      have g0 := hB2.c0
      have g1 := hB2.c1
      have u0 := hB2.f0
      have u1 := hB2.f1
      have Q0 := Hd.mk hB0
      have Q1 := Hd.mk hB1
      have QR := Hd.mk hB2
      have HW := Hd.mk hBW
      have HB : Hd (Below W0.heap.size W0 W0) := ⟨Below.refl _ _⟩
      clear hB0 hB1 hB2 hBW hW0
      go_wp2_with (first | (go_at_call 65; refine (HC.out _ HW.out).mono ?_; rintro e w' ⟨rfl, q, rfl⟩; rw [← HV.out]))
      go_region_held3 (fun w' => w'.cell? ⟨w.heap.size, 0, none⟩ = some (.bool b1) ∧ w'.cell? ⟨w.heap.size, 1, none⟩ = some (.slice A1 (ln x.natAbs) c1) ∧ w'.cell? ⟨w.heap.size + 1, 0, none⟩ = some (.bool b2) ∧ w'.cell? ⟨w.heap.size + 1, 1, none⟩ = some (.slice A2 (ln y.natAbs) c2)) (first | exact ⟨q0, q1, q2, q3⟩ | (repeat' apply And.intro) <;> (first | exact q0 | exact q1 | exact q2 | exact q3 | (go_keep; done) | (rw [World.cell?_setCell_far _ _ _ _ (by first | (simp; done) | (simp; omega)), World.cell?_setCell_far _ _ _ _ (by first | (simp; done) | (simp; omega))]; first | exact q0 | exact q1 | exact q2 | exact q3)))
        (first | (go_at_call 84; refine (HT.out _ (bel_then HW.out (by repeat (first | exact HB.out | exact Below.refl _ _ | refine below_alloc ?_ _ | refine below_drewN ?_ _ | refine below_drew ?_ | refine below_set ?_ (by first | exact Nat.le_refl _ | omega | (simp; done) | (simp; omega)) _)))).mono ?_; rintro e w1 ⟨A3, c3, rfl, hn1, hb1⟩; have hl3 := Nat.le_trans hn1.2.1 hn1.2.2; have HN1 := Hd.mk hn1; clear hn1; have HB' : Hd (Below W0.heap.size W0 _) := ⟨bel_then (by repeat (first | exact HB.out | exact Below.refl _ _ | refine below_alloc ?_ _ | refine below_drewN ?_ _ | refine below_drew ?_ | refine below_set ?_ (by first | exact Nat.le_refl _ | omega | (simp; done) | (simp; omega)) _)) hb1⟩; clear HB; have HB := HB'; clear HB' hb1; replace q0 := (Q0.out.to HB.out).c0; replace q1 := (Q0.out.to HB.out).c1; replace q2 := (Q1.out.to HB.out).c0; replace q3 := (Q1.out.to HB.out).c1; replace g0 := (QR.out.to HB.out).c0; replace g1 := (QR.out.to HB.out).c1; replace u0 := (QR.out.to HB.out).f0; replace u1 := (QR.out.to HB.out).f1) | (go_at_call 81; refine (signed_calls b1 b3 _ _ _ _ hl3 HS.out).mono ?_; rintro e w2 ⟨rfl, hb2⟩; have HN := Hd.mk (HN1.out.to hb2); clear HN1; have HB' : Hd (Below W0.heap.size W0 _) := ⟨bel_then (by repeat (first | exact HB.out | exact Below.refl _ _ | refine below_alloc ?_ _ | refine below_drewN ?_ _ | refine below_drew ?_ | refine below_set ?_ (by first | exact Nat.le_refl _ | omega | (simp; done) | (simp; omega)) _)) hb2⟩; clear HB; have HB := HB'; clear HB' hb2; replace q0 := (Q0.out.to HB.out).c0; replace q1 := (Q0.out.to HB.out).c1; replace q2 := (Q1.out.to HB.out).c0; replace q3 := (Q1.out.to HB.out).c1; replace g0 := (QR.out.to HB.out).c0; replace g1 := (QR.out.to HB.out).c1; replace u0 := (QR.out.to HB.out).f0; replace u1 := (QR.out.to HB.out).f1))
      go_wp2_with fail
      obtain ⟨k0, k1, k2⟩ := two_set g0 g1 (.bool b3) (.slice A3 (ln (x + y).natAbs) c3)
      refine bodyPost_ret (v := .agg #[.bool b3, .slice A3 (ln (x + y).natAbs) c3]) (by simp [results, Try.results33, go_sem, k0, k1]) rfl ?_
      exact ⟨A3, c3, by rw [HB3.out], (HN.out.set_ g0 (by intro t; simp) _).set_ k2 (by intro t; simp) _, (by repeat (first | exact bel_then HW.out HB.out | refine below_set ?_ (by first | exact Nat.le_refl _ | omega | (simp; done) | (simp; omega)) _ | refine below_alloc ?_ _ | refine below_drewN ?_ _ | refine below_drew ?_))⟩
    · have HS := Hd.mk (sgn_right x y hs (by omega))
      have HT := Hd.mk (fun W (hW : Below w.heap.size w W) => rless_calls A2 c2 y.natAbs A1 c1 x.natAbs W (h2.to hW) (h1.to hW) (by omega) (by omega))
      have e : y.natAbs - x.natAbs = (x + y).natAbs := by rw [decide_eq_decide] at hs; omega
      obtain ⟨v, hv⟩ : ∃ v, v = cmpv x.natAbs y.natAbs := ⟨_, rfl⟩
      have hv0 : v < 0 := by rw [hv]; unfold cmpv; rw [if_pos (by omega)]; omega
      have HV := Hd.mk hv
      rw [e] at HT
      rw [← hb1, ← hb2]
      rw [← hb2, ← hb3] at HS
      clear h1 h2 hb1 hb2 hb3 hs e hv hle
      go_enter Try.func33, Try.ntmps33
      go_wp2_with fail
      obtain ⟨W0, hW0⟩ : ∃ W : World, W = ((w.alloc (.cells #[.bool b1, .slice A1 (ln x.natAbs) c1] 38)).alloc (.cells #[.bool b2, .slice A2 (ln y.natAbs) c2] 38)).alloc (.cells #[.bool false, .slice none 0 0] 38) := ⟨_, rfl⟩
      rw [← hW0]
      have HSZ : Hd (w.heap.size + 1 + 1 + 1 = W0.heap.size) := ⟨by rw [hW0]; simp⟩
      obtain ⟨hB0, hB1, hB2, hBW⟩ := boxes3 hW0
      have q0 := hB0.c0
      have q1 := hB0.c1
      have q2 := hB1.c0
      have q3 := hB1.c1
      have g0 := hB2.c0
      have g1 := hB2.c1
      have u0 := hB2.f0
      have u1 := hB2.f1
      have Q0 := Hd.mk hB0
      have Q1 := Hd.mk hB1
      have QR := Hd.mk hB2
      have HW := Hd.mk hBW
      have HB : Hd (Below W0.heap.size W0 W0) := ⟨Below.refl _ _⟩
      clear hB0 hB1 hB2 hBW hW0
      go_wp2_with (first | (go_at_call 65; refine (HC.out _ HW.out).mono ?_; rintro e w' ⟨rfl, q, rfl⟩; rw [← HV.out]))
      go_region_held3 (fun w' => w'.cell? ⟨w.heap.size, 0, none⟩ = some (.bool b1) ∧ w'.cell? ⟨w.heap.size, 1, none⟩ = some (.slice A1 (ln x.natAbs) c1) ∧ w'.cell? ⟨w.heap.size + 1, 0, none⟩ = some (.bool b2) ∧ w'.cell? ⟨w.heap.size + 1, 1, none⟩ = some (.slice A2 (ln y.natAbs) c2)) (first | exact ⟨q0, q1, q2, q3⟩ | (repeat' apply And.intro) <;> (first | exact q0 | exact q1 | exact q2 | exact q3 | (go_keep; done) | (rw [World.cell?_setCell_far _ _ _ _ (by first | (simp; done) | (simp; omega)), World.cell?_setCell_far _ _ _ _ (by first | (simp; done) | (simp; omega))]; first | exact q0 | exact q1 | exact q2 | exact q3)))
        (first | (go_at_call 84; refine (HT.out _ (bel_then HW.out (by repeat (first | exact HB.out | exact Below.refl _ _ | refine below_alloc ?_ _ | refine below_drewN ?_ _ | refine below_drew ?_ | refine below_set ?_ (by first | exact Nat.le_refl _ | omega | (simp; done) | (simp; omega)) _)))).mono ?_; rintro e w1 ⟨A3, c3, rfl, hn1, hb1⟩; have hl3 := Nat.le_trans hn1.2.1 hn1.2.2; have HN1 := Hd.mk hn1; clear hn1; have HB' : Hd (Below W0.heap.size W0 _) := ⟨bel_then (by repeat (first | exact HB.out | exact Below.refl _ _ | refine below_alloc ?_ _ | refine below_drewN ?_ _ | refine below_drew ?_ | refine below_set ?_ (by first | exact Nat.le_refl _ | omega | (simp; done) | (simp; omega)) _)) hb1⟩; clear HB; have HB := HB'; clear HB' hb1; replace q0 := (Q0.out.to HB.out).c0; replace q1 := (Q0.out.to HB.out).c1; replace q2 := (Q1.out.to HB.out).c0; replace q3 := (Q1.out.to HB.out).c1; replace g0 := (QR.out.to HB.out).c0; replace g1 := (QR.out.to HB.out).c1; replace u0 := (QR.out.to HB.out).f0; replace u1 := (QR.out.to HB.out).f1) | (go_at_call 81; refine (signed_calls b2 b3 _ _ _ _ hl3 HS.out).mono ?_; rintro e w2 ⟨rfl, hb2⟩; have HN := Hd.mk (HN1.out.to hb2); clear HN1; have HB' : Hd (Below W0.heap.size W0 _) := ⟨bel_then (by repeat (first | exact HB.out | exact Below.refl _ _ | refine below_alloc ?_ _ | refine below_drewN ?_ _ | refine below_drew ?_ | refine below_set ?_ (by first | exact Nat.le_refl _ | omega | (simp; done) | (simp; omega)) _)) hb2⟩; clear HB; have HB := HB'; clear HB' hb2; replace q0 := (Q0.out.to HB.out).c0; replace q1 := (Q0.out.to HB.out).c1; replace q2 := (Q1.out.to HB.out).c0; replace q3 := (Q1.out.to HB.out).c1; replace g0 := (QR.out.to HB.out).c0; replace g1 := (QR.out.to HB.out).c1; replace u0 := (QR.out.to HB.out).f0; replace u1 := (QR.out.to HB.out).f1))
      go_wp2_with fail
      obtain ⟨k0, k1, k2⟩ := two_set g0 g1 (.bool b3) (.slice A3 (ln (x + y).natAbs) c3)
      refine bodyPost_ret (v := .agg #[.bool b3, .slice A3 (ln (x + y).natAbs) c3]) (by simp [results, Try.results33, go_sem, k0, k1]) rfl ?_
      exact ⟨A3, c3, by rw [HB3.out], (HN.out.set_ g0 (by intro t; simp) _).set_ k2 (by intro t; simp) _, (by repeat (first | exact bel_then HW.out HB.out | refine below_set ?_ (by first | exact Nat.le_refl _ | omega | (simp; done) | (simp; omega)) _ | refine below_alloc ?_ _ | refine below_drewN ?_ _ | refine below_drew ?_))⟩
set_option maxHeartbeats 1000000 in
set_option maxRecDepth 100000 in
theorem rLess_calls (x y : Int) (A1 : Option Addr) (c1 : Nat) (A2 : Option Addr) (c2 : Nat) (w : World) (h1 : NN w A1 c1 x.natAbs) (h2 : NN w A2 c2 y.natAbs) (l1 : ln x.natAbs ≤ 1073741824) (l2 : ln y.natAbs ≤ 1073741824) :
    Calls Try.prog 76 #[.agg #[.bool (decide (x < 0)), .slice A1 (ln x.natAbs) c1], .agg #[.bool (decide (y < 0)), .slice A2 (ln y.natAbs) c2]] w (RetZ (x - y) w) := by
  have hn2 : (-y).natAbs = y.natAbs := Int.natAbs_neg y
  have HM := Hd.mk (fun W (hW : Below w.heap.size w W) => rMinus_calls y A2 c2 W (h2.to hW))
  have HA := Hd.mk (fun W (hW : Below w.heap.size w W) => rPlus_calls x (-y) A1 c1 A2 c2 W (h1.to hW) (by rw [hn2]; exact h2.to hW) l1 (by rw [hn2]; exact l2))
  rw [hn2, show x + -y = x - y from by omega] at HA
  obtain ⟨b1, hb1⟩ : ∃ b, b = decide (x < 0) := ⟨_, rfl⟩
  obtain ⟨b2, hb2⟩ : ∃ b, b = decide (y < 0) := ⟨_, rfl⟩
  obtain ⟨b3, hb3⟩ : ∃ b, b = decide (-y < 0) := ⟨_, rfl⟩
  obtain ⟨b4, hb4⟩ : ∃ b, b = decide (x - y < 0) := ⟨_, rfl⟩
  rw [← hb1, ← hb3] at HA
  rw [← hb2, ← hb3] at HM
  rw [← hb1, ← hb2]
  clear hb1 hb2 hb3 hn2 h1 h2
  have HB4 := Hd.mk hb4
  clear hb4
  go_enter Try.func76, Try.ntmps76
  go_wp2_with fail
  obtain ⟨W0, hW0⟩ : ∃ W : World, W = ((w.alloc (.cells #[.bool b1, .slice A1 (ln x.natAbs) c1] 38)).alloc (.cells #[.bool b2, .slice A2 (ln y.natAbs) c2] 38)).alloc (.cells #[.bool false, .slice none 0 0] 38) := ⟨_, rfl⟩
  rw [← hW0]
  have HSZ : Hd (w.heap.size + 1 + 1 + 1 = W0.heap.size) := ⟨by rw [hW0]; simp⟩
  obtain ⟨hB0, hB1, hB2, hBW⟩ := boxes3 hW0
  have q0 := hB0.c0
  have q1 := hB0.c1
  have q2 := hB1.c0
  have q3 := hB1.c1
  have g0 := hB2.c0
  have g1 := hB2.c1
  have u0 := hB2.f0
  have u1 := hB2.f1
  have Q0 := Hd.mk hB0
  have Q1 := Hd.mk hB1
  have QR := Hd.mk hB2
  have HW := Hd.mk hBW
  have HB : Hd (Below W0.heap.size W0 W0) := ⟨Below.refl _ _⟩
  clear hB0 hB1 hB2 hBW hW0
  go_region_held3 (fun w' => w'.cell? ⟨w.heap.size, 0, none⟩ = some (.bool b1) ∧ w'.cell? ⟨w.heap.size, 1, none⟩ = some (.slice A1 (ln x.natAbs) c1) ∧ w'.cell? ⟨w.heap.size + 1, 0, none⟩ = some (.bool b2) ∧ w'.cell? ⟨w.heap.size + 1, 1, none⟩ = some (.slice A2 (ln y.natAbs) c2)) (first | exact ⟨q0, q1, q2, q3⟩ | (repeat' apply And.intro) <;> (first | exact q0 | exact q1 | exact q2 | exact q3 | (go_keep; done) | (rw [World.cell?_setCell_far _ _ _ _ (by first | (simp; done) | (simp; omega)), World.cell?_setCell_far _ _ _ _ (by first | (simp; done) | (simp; omega))]; first | exact q0 | exact q1 | exact q2 | exact q3)))
    (first | (go_at_call 46; refine (HM.out _ (bel_then HW.out (by repeat (first | exact HB.out | exact Below.refl _ _ | refine below_alloc ?_ _ | refine below_drewN ?_ _ | refine below_drew ?_ | refine below_set ?_ (by first | exact Nat.le_refl _ | omega | (simp; done) | (simp; omega)) _)))).mono ?_; rintro e w1 ⟨rfl, hb1⟩; have HB' : Hd (Below W0.heap.size W0 _) := ⟨bel_then (by repeat (first | exact HB.out | exact Below.refl _ _ | refine below_alloc ?_ _ | refine below_drewN ?_ _ | refine below_drew ?_ | refine below_set ?_ (by first | exact Nat.le_refl _ | omega | (simp; done) | (simp; omega)) _)) hb1⟩; clear HB; have HB := HB'; clear HB' hb1; replace q0 := (Q0.out.to HB.out).c0; replace q1 := (Q0.out.to HB.out).c1; replace q2 := (Q1.out.to HB.out).c0; replace q3 := (Q1.out.to HB.out).c1; replace g0 := (QR.out.to HB.out).c0; replace g1 := (QR.out.to HB.out).c1; replace u0 := (QR.out.to HB.out).f0; replace u1 := (QR.out.to HB.out).f1) | (go_at_call 33; refine (HA.out _ (bel_then HW.out (by repeat (first | exact HB.out | exact Below.refl _ _ | refine below_alloc ?_ _ | refine below_drewN ?_ _ | refine below_drew ?_ | refine below_set ?_ (by first | exact Nat.le_refl _ | omega | (simp; done) | (simp; omega)) _)))).mono ?_; rintro e w2 ⟨A3, c3, rfl, hn1, hb2⟩; rw [← HB4.out]; have HN := Hd.mk hn1; clear hn1; have HB' : Hd (Below W0.heap.size W0 _) := ⟨bel_then (by repeat (first | exact HB.out | exact Below.refl _ _ | refine below_alloc ?_ _ | refine below_drewN ?_ _ | refine below_drew ?_ | refine below_set ?_ (by first | exact Nat.le_refl _ | omega | (simp; done) | (simp; omega)) _)) hb2⟩; clear HB; have HB := HB'; clear HB' hb2; replace q0 := (Q0.out.to HB.out).c0; replace q1 := (Q0.out.to HB.out).c1; replace q2 := (Q1.out.to HB.out).c0; replace q3 := (Q1.out.to HB.out).c1; replace g0 := (QR.out.to HB.out).c0; replace g1 := (QR.out.to HB.out).c1; replace u0 := (QR.out.to HB.out).f0; replace u1 := (QR.out.to HB.out).f1))
  go_wp2_with fail
  obtain ⟨k0, k1, k2⟩ := two_set g0 g1 (.bool b4) (.slice A3 (ln (x - y).natAbs) c3)
  refine bodyPost_ret (v := .agg #[.bool b4, .slice A3 (ln (x - y).natAbs) c3]) (by simp [results, Try.results76, go_sem, k0, k1]) rfl ?_
  exact ⟨A3, c3, by rw [HB4.out], (HN.out.set_ g0 (by intro t; simp) _).set_ k2 (by intro t; simp) _, (by repeat (first | exact bel_then HW.out HB.out | refine below_set ?_ (by first | exact Nat.le_refl _ | omega | (simp; done) | (simp; omega)) _ | refine below_alloc ?_ _ | refine below_drewN ?_ _ | refine below_drew ?_))⟩
set_option maxRecDepth 100000 in
theorem rOrder_calls (x y : Int) (A1 : Option Addr) (c1 : Nat) (A2 : Option Addr) (c2 : Nat) (w : World) (h1 : NN w A1 c1 x.natAbs) (h2 : NN w A2 c2 y.natAbs) (l1 : ln x.natAbs ≤ 1073741824) (l2 : ln y.natAbs ≤ 1073741824) :
    Calls Try.prog 34 #[.agg #[.bool (decide (x < 0)), .slice A1 (ln x.natAbs) c1], .agg #[.bool (decide (y < 0)), .slice A2 (ln y.natAbs) c2]] w fun e w' => e = .returned (.int .i64 (sgnv (x - y))) ∧ Below w.heap.size w w' := by
  have HA := Hd.mk (fun W (hW : Below w.heap.size w W) => rLess_calls x y A1 c1 A2 c2 W (h1.to hW) (h2.to hW) l1 l2)
  obtain ⟨b1, hb1⟩ : ∃ b, b = decide (x < 0) := ⟨_, rfl⟩
  obtain ⟨b2, hb2⟩ : ∃ b, b = decide (y < 0) := ⟨_, rfl⟩
  rw [← hb1, ← hb2] at HA ⊢
  clear hb1 hb2 h1 h2
  go_enter Try.func34, Try.ntmps34
  go_wp2_with fail
  obtain ⟨W0, hW0⟩ : ∃ W : World, W = (w.alloc (.cells #[.bool b1, .slice A1 (ln x.natAbs) c1] 38)).alloc (.cells #[.bool b2, .slice A2 (ln y.natAbs) c2] 38) := ⟨_, rfl⟩
  rw [← hW0]
  have HSZ : Hd (w.heap.size + 1 + 1 = W0.heap.size) := ⟨by rw [hW0]; simp⟩
  obtain ⟨hB0, hB1, hBW⟩ := boxes2 hW0
  have q0 := hB0.c0
  have q1 := hB0.c1
  have q2 := hB1.c0
  have q3 := hB1.c1
  have Q0 := Hd.mk hB0
  have Q1 := Hd.mk hB1
  have HW := Hd.mk hBW
  have HB : Hd (Below W0.heap.size W0 W0) := ⟨Below.refl _ _⟩
  clear hB0 hB1 hBW hW0
  go_wp2_with (first | (go_at_call 76; refine (HA.out _ (bel_then HW.out (by repeat (first | exact HB.out | exact Below.refl _ _ | refine below_alloc ?_ _ | refine below_drewN ?_ _ | refine below_drew ?_ | refine below_set ?_ (by first | exact Nat.le_refl _ | omega | (simp; done) | (simp; omega)) _)))).mono ?_; rintro e w1 ⟨A3, c3, rfl, hn1, hb1⟩; have hl3 := Nat.le_trans hn1.2.1 hn1.2.2; clear hn1; have HB' : Hd (Below W0.heap.size W0 _) := ⟨bel_then (by repeat (first | exact HB.out | exact Below.refl _ _ | refine below_alloc ?_ _ | refine below_drewN ?_ _ | refine below_drew ?_ | refine below_set ?_ (by first | exact Nat.le_refl _ | omega | (simp; done) | (simp; omega)) _)) hb1⟩; clear HB; have HB := HB'; clear HB' hb1; replace q0 := (Q0.out.to HB.out).c0; replace q1 := (Q0.out.to HB.out).c1; replace q2 := (Q1.out.to HB.out).c0; replace q3 := (Q1.out.to HB.out).c1) | (go_at_call 43; refine (rSign_calls (x - y) A3 c3 _ hl3).mono ?_; rintro e w2 ⟨rfl, hb2⟩; have HB' : Hd (Below W0.heap.size W0 _) := ⟨bel_then (by repeat (first | exact HB.out | exact Below.refl _ _ | refine below_alloc ?_ _ | refine below_drewN ?_ _ | refine below_drew ?_ | refine below_set ?_ (by first | exact Nat.le_refl _ | omega | (simp; done) | (simp; omega)) _)) hb2⟩; clear HB; have HB := HB'; clear HB' hb2; replace q0 := (Q0.out.to HB.out).c0; replace q1 := (Q0.out.to HB.out).c1; replace q2 := (Q1.out.to HB.out).c0; replace q3 := (Q1.out.to HB.out).c1))
  go_ret
  exact ⟨rfl, (by repeat (first | exact bel_then HW.out HB.out | refine below_set ?_ (by first | exact Nat.le_refl _ | omega | (simp; done) | (simp; omega)) _ | refine below_alloc ?_ _ | refine below_drewN ?_ _ | refine below_drew ?_))⟩
end Go.Proofs.Ytcjcpfafalkceaa
