/- The reference: Same, Valid, Cmp, Add, Sub, Mul. -/
import Derived.Test.YtcjcpfafalkceaaRF
set_option linter.unusedVariables false
namespace Go.Proofs.Ytcjcpfafalkceaa
open Go.RowKit
theorem zsame {x y : Int} : x = y ↔ (decide (x < 0) = decide (y < 0) ∧ x.natAbs = y.natAbs) := by
  constructor
  · rintro rfl; exact ⟨rfl, rfl⟩
  · rintro ⟨h1, h2⟩; rw [decide_eq_decide] at h1; omega
set_option maxRecDepth 100000 in
theorem same_calls (x y : Int) (A1 : Option Addr) (c1 : Nat) (A2 : Option Addr) (c2 : Nat) (w : World) (h1 : NN w A1 c1 x.natAbs) (h2 : NN w A2 c2 y.natAbs) :
    Calls Try.prog 14 #[.agg #[.bool (decide (x < 0)), .slice A1 (ln x.natAbs) c1], .agg #[.bool (decide (y < 0)), .slice A2 (ln y.natAbs) c2]] w fun e w' => e = .returned (.bool (decide (x = y))) ∧ Below w.heap.size w w' := by
  have hl1 := Nat.le_trans h1.2.1 h1.2.2
  have hl2 := Nat.le_trans h2.2.1 h2.2.2
  have HC := Hd.mk (fun W (hW : Below w.heap.size w W) => order_calls A1 c1 x.natAbs A2 c2 y.natAbs W (h1.to hW) (h2.to hW))
  have HD : Hd (decide (x = y) = (decide (decide (x < 0) = decide (y < 0)) && decide (x.natAbs = y.natAbs))) := ⟨by rw [Bool.eq_iff_iff]; simp [zsame]⟩
  by_cases hb : decide (x < 0) = decide (y < 0)
  · by_cases hl : ln x.natAbs = ln y.natAbs
    · obtain ⟨v, hv⟩ : ∃ v, v = cmpv x.natAbs y.natAbs := ⟨_, rfl⟩
      have HV := Hd.mk hv
      by_cases hxy : x.natAbs = y.natAbs
      · have hr : decide (x = y) = true := by rw [HD.out, hb]; simp [hxy]
        have hv0 : v = 0 := by rw [hv]; unfold cmpv; rw [if_neg (by omega), if_pos hxy]
        rw [hr, ← hb, ← hl]
        subst hv0
        obtain ⟨b1, hb1⟩ : ∃ b, b = decide (x < 0) := ⟨_, rfl⟩
        rw [← hb1]
        have hbb : (b1 == b1) = true := by simp
        rw [← hl] at HC
        clear h1 h2 hb hl hv hxy hr hb1 hl2
        go_enter Try.func14, Try.ntmps14
        go_wp2_with fail
        obtain ⟨W0, hW0⟩ : ∃ W : World, W = (w.alloc (.cells #[.bool b1, .slice A1 (ln x.natAbs) c1] 24)).alloc (.cells #[.bool b1, .slice A2 (ln x.natAbs) c2] 24) := ⟨_, rfl⟩
        rw [← hW0]
        have HSZ : Hd (w.heap.size + 1 + 1 = W0.heap.size) := ⟨by rw [hW0]; simp⟩
        obtain ⟨hB0, hB1, hBW⟩ := boxes2 hW0
        have q0 := hB0.c0
        have q1 := hB0.c1
        have q2 := hB1.c0
        have q3 := hB1.c1
        have Q0 := Hd.mk hB0
        have Q1 := Hd.mk hB1
        have HW := Hd.mk hBW
        have HB : Hd (Below W0.heap.size W0 W0) := ⟨Below.refl _ _⟩
        clear hB0 hB1 hBW hW0
        go_wp2_with (first | (go_at_call 65; refine (HC.out _ HW.out).mono ?_; rintro e w' ⟨rfl, q, rfl⟩; rw [← HV.out]))
        go_ret
        exact ⟨rfl, (by repeat (first | exact bel_then HW.out HB.out | refine below_set ?_ (by first | exact Nat.le_refl _ | omega | (simp; done) | (simp; omega)) _ | refine below_alloc ?_ _ | refine below_drewN ?_ _ | refine below_drew ?_))⟩
      · have hr : decide (x = y) = false := by rw [HD.out]; simp [hxy]
        have hv0 : (v == 0) = false := by rw [hv, beq_eq_false_iff_ne]; unfold cmpv; split <;> (try split) <;> omega
        rw [hr, ← hb, ← hl]
        obtain ⟨b1, hb1⟩ : ∃ b, b = decide (x < 0) := ⟨_, rfl⟩
        rw [← hb1]
        have hbb : (b1 == b1) = true := by simp
        rw [← hl] at HC
        clear h1 h2 hb hl hv hxy hr hb1 hl2
        go_enter Try.func14, Try.ntmps14
        go_wp2_with fail
        obtain ⟨W0, hW0⟩ : ∃ W : World, W = (w.alloc (.cells #[.bool b1, .slice A1 (ln x.natAbs) c1] 24)).alloc (.cells #[.bool b1, .slice A2 (ln x.natAbs) c2] 24) := ⟨_, rfl⟩
        rw [← hW0]
        have HSZ : Hd (w.heap.size + 1 + 1 = W0.heap.size) := ⟨by rw [hW0]; simp⟩
        obtain ⟨hB0, hB1, hBW⟩ := boxes2 hW0
        have q0 := hB0.c0
        have q1 := hB0.c1
        have q2 := hB1.c0
        have q3 := hB1.c1
        have Q0 := Hd.mk hB0
        have Q1 := Hd.mk hB1
        have HW := Hd.mk hBW
        have HB : Hd (Below W0.heap.size W0 W0) := ⟨Below.refl _ _⟩
        clear hB0 hB1 hBW hW0
        go_wp2_with (first | (go_at_call 65; refine (HC.out _ HW.out).mono ?_; rintro e w' ⟨rfl, q, rfl⟩; rw [← HV.out]))
        go_ret
        exact ⟨rfl, (by repeat (first | exact bel_then HW.out HB.out | refine below_set ?_ (by first | exact Nat.le_refl _ | omega | (simp; done) | (simp; omega)) _ | refine below_alloc ?_ _ | refine below_drewN ?_ _ | refine below_drew ?_))⟩
    · have hr : decide (x = y) = false := by rw [HD.out]; simp; intro _ h; exact hl (by rw [h])
      rw [hr, ← hb]
      obtain ⟨b1, hb1⟩ : ∃ b, b = decide (x < 0) := ⟨_, rfl⟩
      rw [← hb1]
      have hbb : (b1 == b1) = true := by simp
      have hll : ((ln x.natAbs : Int) == (ln y.natAbs : Int)) = false := by rw [beq_eq_false_iff_ne]; omega
      clear h1 h2 hb hr hb1
      go_enter Try.func14, Try.ntmps14
      go_wp2
      go_ret
      exact ⟨rfl, by repeat (first | exact HB.out | exact Below.refl _ _ | refine below_alloc ?_ _ | refine below_drewN ?_ _ | refine below_drew ?_ | refine below_set ?_ (by first | exact Nat.le_refl _ | omega | (simp; done) | (simp; omega)) _)⟩
  · have hr : decide (x = y) = false := by rw [HD.out]; simp [hb]
    obtain ⟨b1, b2, hb1, hb2, hbb⟩ : ∃ b1 b2, b1 = decide (x < 0) ∧ b2 = decide (y < 0) ∧ (b1 == b2) = false := ⟨_, _, rfl, rfl, by simpa using hb⟩
    rw [hr, ← hb1, ← hb2]
    clear h1 h2 hb hr hb1 hb2
    go_enter Try.func14, Try.ntmps14
    go_wp2
    go_ret
    exact ⟨rfl, by repeat (first | exact HB.out | exact Below.refl _ _ | refine below_alloc ?_ _ | refine below_drewN ?_ _ | refine below_drew ?_ | refine below_set ?_ (by first | exact Nat.le_refl _ | omega | (simp; done) | (simp; omega)) _)⟩
set_option maxRecDepth 100000 in
theorem rvalid_calls (r : Raw) (w : World) (h : r.at_ w) :
    Calls Try.prog 22 #[r.v] w fun e w' => e = .returned (.bool r.ok) ∧ Below w.heap.size w w' := by
  obtain ⟨neg, A, c, xs⟩ := r
  obtain ⟨hrn, hdg, hlc, hcm⟩ := h
  unfold Raw.v
  simp only at hrn hdg hlc hcm ⊢
  have HRN := Hd.mk hrn
  obtain ⟨o, ho⟩ : ∃ o, o = Raw.ok ⟨neg, A, c, xs⟩ := ⟨_, rfl⟩
  rw [← ho]
  have HO := Hd.mk ho
  clear ho hrn hdg
  by_cases h256 : xs.length ≤ 256
  · have hi : decide ((xs.length : Int) ≤ 256) = true := decide_eq_true (by omega)
    rcases xs with _ | ⟨x0, xt⟩
    · have : o = !neg := by rw [HO.out]; cases neg <;> rfl
      subst this
      clear HO
      go_enter Try.func22, Try.ntmps22
      go_wp2
      go_ret
      exact ⟨rfl, by repeat (first | exact HB.out | exact Below.refl _ _ | refine below_alloc ?_ _ | refine below_drewN ?_ _ | refine below_drew ?_ | refine below_set ?_ (by first | exact Nat.le_refl _ | omega | (simp; done) | (simp; omega)) _)⟩
    · obtain ⟨m, hm⟩ : ∃ m, m = (x0 :: xt).length := ⟨_, rfl⟩
      have hm0 : 0 < m := by rw [hm]; simp
      obtain ⟨ad, rfl, hcell⟩ := (HRN.out.to (below_alloc (Below.refl _ _) (.cells #[.bool neg, .slice A (x0 :: xt).length c] 24))).at_ (k := m - 1) (by omega)
      obtain ⟨y, hy⟩ : ∃ y, y = (x0 :: xt).getD (m - 1) 0 := ⟨_, rfl⟩
      rw [← hy] at hcell
      have ho2 : o = decide (y ≠ 0) := by
        rw [HO.out]
        unfold Raw.ok
        simp only [← hm, ← hy]
        rw [decide_eq_true (show m ≤ 256 by omega), decide_eq_false (show ¬ m = 0 by omega), decide_eq_true hm0]
        simp
      rw [← hm] at hi hlc hcell ⊢
      have hd0 : decide (0 < m) = true := decide_eq_true hm0
      have hm1 : ((m : Int) == 0) = false := by rw [beq_eq_false_iff_ne]; omega
      clear hm hy HO HRN h256
      by_cases hy0 : y = 0
      · subst hy0
        have : o = false := by rw [ho2]; simp
        subst this
        clear ho2
        go_enter Try.func22, Try.ntmps22
        go_wp2
        go_ret
        exact ⟨rfl, by repeat (first | exact HB.out | exact Below.refl _ _ | refine below_alloc ?_ _ | refine below_drewN ?_ _ | refine below_drew ?_ | refine below_set ?_ (by first | exact Nat.le_refl _ | omega | (simp; done) | (simp; omega)) _)⟩
      · have : o = true := by rw [ho2]; simp [hy0]
        subst this
        have hy1 : ((y : Int) != 0) = true := by rw [bne_iff_ne]; omega
        clear ho2 hy0
        go_enter Try.func22, Try.ntmps22
        go_wp2
        go_ret
        exact ⟨rfl, by repeat (first | exact HB.out | exact Below.refl _ _ | refine below_alloc ?_ _ | refine below_drewN ?_ _ | refine below_drew ?_ | refine below_set ?_ (by first | exact Nat.le_refl _ | omega | (simp; done) | (simp; omega)) _)⟩
  · have hi : decide ((xs.length : Int) ≤ 256) = false := decide_eq_false (by omega)
    have : o = false := by rw [HO.out]; unfold Raw.ok; simp only; rw [decide_eq_false h256]; rfl
    subst this
    clear HO
    have hlen : xs.length ≤ 9223372036854775807 := by omega
    clear h256
    go_enter Try.func22, Try.ntmps22
    go_wp2
    go_ret
    exact ⟨rfl, by repeat (first | exact HB.out | exact Below.refl _ _ | refine below_alloc ?_ _ | refine below_drewN ?_ _ | refine below_drew ?_ | refine below_set ?_ (by first | exact Nat.le_refl _ | omega | (simp; done) | (simp; omega)) _)⟩
end Go.Proofs.Ytcjcpfafalkceaa
