/- Whole numbers: sums, differences, products. -/
import Derived.Test.YtcjcpfafalkceaaF
set_option linter.unusedVariables false
namespace Go.Proofs.Ytcjcpfafalkceaa
open Go.RowKit
set_option maxHeartbeats 1000000 in
set_option maxRecDepth 100000 in
theorem wadd_calls (x y : Int) (A1 : Option Addr) (c1 : Nat) (A2 : Option Addr) (c2 : Nat) (w : World) (h1 : NN w A1 c1 x.natAbs) (h2 : NN w A2 c2 y.natAbs) (l1 : ln x.natAbs ≤ 1073741824) (l2 : ln y.natAbs ≤ 1073741824) :
    Calls Try.prog 64 #[.agg #[.bool (decide (x < 0)), .slice A1 (ln x.natAbs) c1], .agg #[.bool (decide (y < 0)), .slice A2 (ln y.natAbs) c2]] w (RetZ (x + y) w) := by
  have H1 := Hd.mk h1
  have H2 := Hd.mk h2
  clear h1 h2
  by_cases hs : decide (x < 0) = decide (y < 0)
  · have HZ : Hd ((x + y).natAbs = x.natAbs + y.natAbs) := ⟨by
      by_cases hx : x < 0 <;> by_cases hy : y < 0 <;> simp [hx, hy] at hs <;> omega⟩
    obtain ⟨b, hb⟩ : ∃ b, b = decide (x < 0) := ⟨_, rfl⟩
    have HS : Hd (decide (x + y < 0) = b) := ⟨by
      rw [hb]
      by_cases hx : x < 0 <;> by_cases hy : y < 0 <;> simp [hx, hy] at hs ⊢ <;> omega⟩
    rw [← hs, ← hb]
    clear hs hb
    have hbb : (b == b) = true := by simp
    go_enter Try.func64, Try.ntmps64
    go_wp2_with fail
    have ne1 : w.heap.size + 1 + 1 ≠ w.heap.size := by omega
    have ne2 : w.heap.size + 1 + 1 ≠ w.heap.size + 1 := by omega
    have ne3 : w.heap.size + 1 ≠ w.heap.size := by omega
    go_region_held3 (fun w' => w'.cell? ⟨w.heap.size, 0, none⟩ = some (.bool b) ∧ w'.cell? ⟨w.heap.size, 1, none⟩ = some (.slice A1 (ln x.natAbs) c1) ∧ w'.cell? ⟨w.heap.size + 1, 0, none⟩ = some (.bool b) ∧ w'.cell? ⟨w.heap.size + 1, 1, none⟩ = some (.slice A2 (ln y.natAbs) c2))
      (first | (go_keep; done) | ((repeat' apply And.intro) <;> (first | (go_keep; done) | (rw [hc1 _ _ (by first | (simp; done) | (simp; omega))]; go_keep) | (rw [World.cell?_setCell_far _ _ _ _ (by simp), World.cell?_setCell_far _ _ _ _ (by simp)]; rw [hc1 _ _ (by first | (simp; done) | (simp; omega))]; go_keep))))
      (first | (go_at_call 77; refine (add_calls _ _ _ _ _ _ _ (H1.out.to (by repeat (first | exact HB.out | exact Below.refl _ _ | refine below_alloc ?_ _ | refine below_drewN ?_ _ | refine below_drew ?_ | refine below_set ?_ (by first | exact Nat.le_refl _ | omega | (simp; done) | (simp; omega)) _))) (H2.out.to (by repeat (first | exact HB.out | exact Below.refl _ _ | refine below_alloc ?_ _ | refine below_drewN ?_ _ | refine below_drew ?_ | refine below_set ?_ (by first | exact Nat.le_refl _ | omega | (simp; done) | (simp; omega)) _))) l1 l2).mono ?_; rintro e w1 ⟨A3, c3, rfl, hn1, hb1⟩; obtain ⟨hc1, hf1⟩ := bcell hb1; have HN1 := Hd.mk hn1; have HB1 := Hd.mk hb1; clear hn1 hb1))
    go_wp2_with fail
    have HB : Hd (Below w.heap.size w w1) := ⟨bel_then (by repeat (first | exact HB.out | exact Below.refl _ _ | refine below_alloc ?_ _ | refine below_drewN ?_ _ | refine below_drew ?_ | refine below_set ?_ (by first | exact Nat.le_refl _ | omega | (simp; done) | (simp; omega)) _)) HB1.out⟩
    have g0 : w1.cell? ⟨w.heap.size + 1 + 1, 0, none⟩ = some (.bool false) := (hc1 _ _ (by simp)).trans ((blk_third w _ _ [.bool false, .slice none 0 0] 70).cell 0)
    have g1 : w1.cell? ⟨w.heap.size + 1 + 1, 1, none⟩ = some (.slice none 0 0) := (hc1 _ _ (by simp)).trans ((blk_third w _ _ [.bool false, .slice none 0 0] 70).cell 1)
    obtain ⟨k0, k1, k2⟩ := two_set g0 g1 (.bool b) (.slice A3 (ln (x.natAbs + y.natAbs)) c3)
    refine bodyPost_ret (v := .agg #[.bool b, .slice A3 (ln (x.natAbs + y.natAbs)) c3]) (by simp [results, Try.results64, go_sem, k0, k1]) rfl ?_
    refine ⟨A3, c3, by rw [HZ.out, HS.out], ?_, by repeat (first | exact HB.out | exact Below.refl _ _ | refine below_alloc ?_ _ | refine below_drewN ?_ _ | refine below_drew ?_ | refine below_set ?_ (by first | exact Nat.le_refl _ | omega | (simp; done) | (simp; omega)) _)⟩
    rw [HZ.out]
    exact (HN1.out.set_ g0 (by intro t; simp) _).set_ k2 (by intro t; simp) _
  · have hbn : ∃ b b2, b = decide (x < 0) ∧ b2 = decide (y < 0) ∧ (b == b2) = false := ⟨_, _, rfl, rfl, by simpa using hs⟩
    obtain ⟨b, b2, hb, hb2, hbb⟩ := hbn
    rw [← hb, ← hb2]
    have hxy : (x < 0 ∧ 0 ≤ y) ∨ (0 ≤ x ∧ y < 0) := by
      by_cases hx : x < 0 <;> by_cases hy : y < 0 <;> simp [hx, hy] at hs <;> omega
    have HC := Hd.mk (fun W hW => cmp_calls A1 c1 x.natAbs A2 c2 y.natAbs W (H1.out.to hW) (H2.out.to hW))
    rcases Nat.lt_trichotomy x.natAbs y.natAbs with hlt | heq | hgt
    · have hv : cmpv x.natAbs y.natAbs = -1 := by unfold cmpv; rw [if_pos hlt]
      have HV := Hd.mk hv
      have HZ : Hd ((x + y).natAbs = y.natAbs - x.natAbs) := ⟨by omega⟩
      have HS : Hd (decide (x + y < 0) = b2) := ⟨by rw [hb2]; apply decide_eq_decide.2; omega⟩
      have hle := Nat.le_of_lt hlt
      clear hs hb hb2 hxy hv hlt
      go_enter Try.func64, Try.ntmps64
      go_wp2_with (first | (go_at_call 115; refine (HC.out _ (by repeat (first | exact HB.out | exact Below.refl _ _ | refine below_alloc ?_ _ | refine below_drewN ?_ _ | refine below_drew ?_ | refine below_set ?_ (by first | exact Nat.le_refl _ | omega | (simp; done) | (simp; omega)) _))).mono ?_; rintro e w' ⟨rfl, q, rfl⟩; rw [HV.out]))
      have ne1 : w.heap.size + 1 + 1 ≠ w.heap.size := by omega
      have ne2 : w.heap.size + 1 + 1 ≠ w.heap.size + 1 := by omega
      have ne3 : w.heap.size + 1 ≠ w.heap.size := by omega
      go_region_held3 (fun w' => w'.cell? ⟨w.heap.size, 0, none⟩ = some (.bool b) ∧ w'.cell? ⟨w.heap.size, 1, none⟩ = some (.slice A1 (ln x.natAbs) c1) ∧ w'.cell? ⟨w.heap.size + 1, 0, none⟩ = some (.bool b2) ∧ w'.cell? ⟨w.heap.size + 1, 1, none⟩ = some (.slice A2 (ln y.natAbs) c2))
        (first | (go_keep; done) | ((repeat' apply And.intro) <;> (first | (go_keep; done) | (rw [hc1 _ _ (by first | (simp; done) | (simp; omega))]; go_keep) | (rw [World.cell?_setCell_far _ _ _ _ (by simp), World.cell?_setCell_far _ _ _ _ (by simp)]; rw [hc1 _ _ (by first | (simp; done) | (simp; omega))]; go_keep))))
        (first | (go_at_call 116; refine (sub_calls _ _ _ _ _ _ _ (H2.out.to (by repeat (first | exact HB.out | exact Below.refl _ _ | refine below_alloc ?_ _ | refine below_drewN ?_ _ | refine below_drew ?_ | refine below_set ?_ (by first | exact Nat.le_refl _ | omega | (simp; done) | (simp; omega)) _))) (H1.out.to (by repeat (first | exact HB.out | exact Below.refl _ _ | refine below_alloc ?_ _ | refine below_drewN ?_ _ | refine below_drew ?_ | refine below_set ?_ (by first | exact Nat.le_refl _ | omega | (simp; done) | (simp; omega)) _))) hle l2).mono ?_; rintro e w1 ⟨A3, c3, rfl, hn1, hb1⟩; obtain ⟨hc1, hf1⟩ := bcell hb1; have HN1 := Hd.mk hn1; have HB1 := Hd.mk hb1; clear hn1 hb1))
      go_wp2_with fail
      have HB : Hd (Below w.heap.size w w1) := ⟨bel_then (by repeat (first | exact HB.out | exact Below.refl _ _ | refine below_alloc ?_ _ | refine below_drewN ?_ _ | refine below_drew ?_ | refine below_set ?_ (by first | exact Nat.le_refl _ | omega | (simp; done) | (simp; omega)) _)) HB1.out⟩
      have g0 : w1.cell? ⟨w.heap.size + 1 + 1, 0, none⟩ = some (.bool false) := (hc1 _ _ (by simp)).trans ((blk_third w _ _ [.bool false, .slice none 0 0] 70).cell 0)
      have g1 : w1.cell? ⟨w.heap.size + 1 + 1, 1, none⟩ = some (.slice none 0 0) := (hc1 _ _ (by simp)).trans ((blk_third w _ _ [.bool false, .slice none 0 0] 70).cell 1)
      obtain ⟨k0, k1, k2⟩ := two_set g0 g1 (.bool b2) (.slice A3 (ln (y.natAbs - x.natAbs)) c3)
      refine bodyPost_ret (v := .agg #[.bool b2, .slice A3 (ln (y.natAbs - x.natAbs)) c3]) (by simp [results, Try.results64, go_sem, k0, k1]) rfl ?_
      refine ⟨A3, c3, by rw [HZ.out, HS.out], ?_, by repeat (first | exact HB.out | exact Below.refl _ _ | refine below_alloc ?_ _ | refine below_drewN ?_ _ | refine below_drew ?_ | refine below_set ?_ (by first | exact Nat.le_refl _ | omega | (simp; done) | (simp; omega)) _)⟩
      rw [HZ.out]
      exact (HN1.out.set_ g0 (by intro t; simp) _).set_ k2 (by intro t; simp) _
    · have hv : cmpv x.natAbs y.natAbs = 0 := by unfold cmpv; rw [if_neg (by omega), if_pos heq]
      have HV := Hd.mk hv
      have HZ : Hd (x + y = 0) := ⟨by omega⟩
      clear hs hb hb2 hxy hv heq
      go_enter Try.func64, Try.ntmps64
      go_wp2_with (first | (go_at_call 115; refine (HC.out _ (by repeat (first | exact HB.out | exact Below.refl _ _ | refine below_alloc ?_ _ | refine below_drewN ?_ _ | refine below_drew ?_ | refine below_set ?_ (by first | exact Nat.le_refl _ | omega | (simp; done) | (simp; omega)) _))).mono ?_; rintro e w' ⟨rfl, q, rfl⟩; rw [HV.out]))
      refine bodyPost_ret (v := .agg #[.bool false, .slice none 0 0]) (by simp [results, Try.results64, go_sem]) rfl ?_
      rw [HZ.out]
      exact ⟨none, 0, by rw [show ln (Int.natAbs 0) = 0 from ln_zero]; rfl, NN.nil _ _ _ (by omega), by repeat (first | exact HB.out | exact Below.refl _ _ | refine below_alloc ?_ _ | refine below_drewN ?_ _ | refine below_drew ?_ | refine below_set ?_ (by first | exact Nat.le_refl _ | omega | (simp; done) | (simp; omega)) _)⟩
    · have hv : cmpv x.natAbs y.natAbs = 1 := by unfold cmpv; rw [if_neg (by omega), if_neg (by omega)]
      have HV := Hd.mk hv
      have HZ : Hd ((x + y).natAbs = x.natAbs - y.natAbs) := ⟨by omega⟩
      have HS : Hd (decide (x + y < 0) = b) := ⟨by rw [hb]; apply decide_eq_decide.2; omega⟩
      have hle := Nat.le_of_lt hgt
      clear hs hb hb2 hxy hv hgt
      go_enter Try.func64, Try.ntmps64
      go_wp2_with (first | (go_at_call 115; refine (HC.out _ (by repeat (first | exact HB.out | exact Below.refl _ _ | refine below_alloc ?_ _ | refine below_drewN ?_ _ | refine below_drew ?_ | refine below_set ?_ (by first | exact Nat.le_refl _ | omega | (simp; done) | (simp; omega)) _))).mono ?_; rintro e w' ⟨rfl, q, rfl⟩; rw [HV.out]))
      have ne1 : w.heap.size + 1 + 1 ≠ w.heap.size := by omega
      have ne2 : w.heap.size + 1 + 1 ≠ w.heap.size + 1 := by omega
      have ne3 : w.heap.size + 1 ≠ w.heap.size := by omega
      go_region_held3 (fun w' => w'.cell? ⟨w.heap.size, 0, none⟩ = some (.bool b) ∧ w'.cell? ⟨w.heap.size, 1, none⟩ = some (.slice A1 (ln x.natAbs) c1) ∧ w'.cell? ⟨w.heap.size + 1, 0, none⟩ = some (.bool b2) ∧ w'.cell? ⟨w.heap.size + 1, 1, none⟩ = some (.slice A2 (ln y.natAbs) c2))
        (first | (go_keep; done) | ((repeat' apply And.intro) <;> (first | (go_keep; done) | (rw [hc1 _ _ (by first | (simp; done) | (simp; omega))]; go_keep) | (rw [World.cell?_setCell_far _ _ _ _ (by simp), World.cell?_setCell_far _ _ _ _ (by simp)]; rw [hc1 _ _ (by first | (simp; done) | (simp; omega))]; go_keep))))
        (first | (go_at_call 116; refine (sub_calls _ _ _ _ _ _ _ (H1.out.to (by repeat (first | exact HB.out | exact Below.refl _ _ | refine below_alloc ?_ _ | refine below_drewN ?_ _ | refine below_drew ?_ | refine below_set ?_ (by first | exact Nat.le_refl _ | omega | (simp; done) | (simp; omega)) _))) (H2.out.to (by repeat (first | exact HB.out | exact Below.refl _ _ | refine below_alloc ?_ _ | refine below_drewN ?_ _ | refine below_drew ?_ | refine below_set ?_ (by first | exact Nat.le_refl _ | omega | (simp; done) | (simp; omega)) _))) hle l1).mono ?_; rintro e w1 ⟨A3, c3, rfl, hn1, hb1⟩; obtain ⟨hc1, hf1⟩ := bcell hb1; have HN1 := Hd.mk hn1; have HB1 := Hd.mk hb1; clear hn1 hb1))
      go_wp2_with fail
      have HB : Hd (Below w.heap.size w w1) := ⟨bel_then (by repeat (first | exact HB.out | exact Below.refl _ _ | refine below_alloc ?_ _ | refine below_drewN ?_ _ | refine below_drew ?_ | refine below_set ?_ (by first | exact Nat.le_refl _ | omega | (simp; done) | (simp; omega)) _)) HB1.out⟩
      have g0 : w1.cell? ⟨w.heap.size + 1 + 1, 0, none⟩ = some (.bool false) := (hc1 _ _ (by simp)).trans ((blk_third w _ _ [.bool false, .slice none 0 0] 70).cell 0)
      have g1 : w1.cell? ⟨w.heap.size + 1 + 1, 1, none⟩ = some (.slice none 0 0) := (hc1 _ _ (by simp)).trans ((blk_third w _ _ [.bool false, .slice none 0 0] 70).cell 1)
      obtain ⟨k0, k1, k2⟩ := two_set g0 g1 (.bool b) (.slice A3 (ln (x.natAbs - y.natAbs)) c3)
      refine bodyPost_ret (v := .agg #[.bool b, .slice A3 (ln (x.natAbs - y.natAbs)) c3]) (by simp [results, Try.results64, go_sem, k0, k1]) rfl ?_
      refine ⟨A3, c3, by rw [HZ.out, HS.out], ?_, by repeat (first | exact HB.out | exact Below.refl _ _ | refine below_alloc ?_ _ | refine below_drewN ?_ _ | refine below_drew ?_ | refine below_set ?_ (by first | exact Nat.le_refl _ | omega | (simp; done) | (simp; omega)) _)⟩
      rw [HZ.out]
      exact (HN1.out.set_ g0 (by intro t; simp) _).set_ k2 (by intro t; simp) _
set_option maxHeartbeats 1000000 in
set_option maxRecDepth 100000 in
theorem wsub_calls (x y : Int) (A1 : Option Addr) (c1 : Nat) (A2 : Option Addr) (c2 : Nat) (w : World) (h1 : NN w A1 c1 x.natAbs) (h2 : NN w A2 c2 y.natAbs) (l1 : ln x.natAbs ≤ 1073741824) (l2 : ln y.natAbs ≤ 1073741824) :
    Calls Try.prog 66 #[.agg #[.bool (decide (x < 0)), .slice A1 (ln x.natAbs) c1], .agg #[.bool (decide (y < 0)), .slice A2 (ln y.natAbs) c2]] w (RetZ (x - y) w) := by
  have H1 := Hd.mk h1
  have H2 := Hd.mk h2
  clear h1 h2
  have hn2 : (-y).natAbs = y.natAbs := Int.natAbs_neg y
  have HM := Hd.mk (fun W hW => minus_calls y A2 c2 W (H2.out.to hW))
  have HA := Hd.mk (fun W hW => wadd_calls x (-y) A1 c1 A2 c2 W (H1.out.to hW) (by rw [hn2]; exact H2.out.to hW) l1 (by rw [hn2]; exact l2))
  rw [hn2, show x + -y = x - y from by omega] at HA
  obtain ⟨b1, hb1⟩ : ∃ b, b = decide (x < 0) := ⟨_, rfl⟩
  obtain ⟨b2, hb2⟩ : ∃ b, b = decide (y < 0) := ⟨_, rfl⟩
  obtain ⟨b3, hb3⟩ : ∃ b, b = decide (-y < 0) := ⟨_, rfl⟩
  rw [← hb1, ← hb3] at HA
  rw [← hb2, ← hb3] at HM
  rw [← hb1, ← hb2]
  clear hb1 hb2 hb3 hn2
  go_enter Try.func66, Try.ntmps66
  go_wp2_with fail
  have ne1 : w.heap.size + 1 + 1 ≠ w.heap.size := by omega
  have ne2 : w.heap.size + 1 + 1 ≠ w.heap.size + 1 := by omega
  have ne3 : w.heap.size + 1 ≠ w.heap.size := by omega
  go_region_held3 (fun w' => w'.cell? ⟨w.heap.size, 0, none⟩ = some (.bool b1) ∧ w'.cell? ⟨w.heap.size, 1, none⟩ = some (.slice A1 (ln x.natAbs) c1) ∧ w'.cell? ⟨w.heap.size + 1, 0, none⟩ = some (.bool b2) ∧ w'.cell? ⟨w.heap.size + 1, 1, none⟩ = some (.slice A2 (ln y.natAbs) c2))
    (first | (go_keep; done) | ((repeat' apply And.intro) <;> (first | (go_keep; done) | (rw [hc1 _ _ (by first | (simp; done) | (simp; omega))]; go_keep; done) | (rw [hc2 _ _ (by omega), hc1 _ _ (by first | (simp; done) | (simp; omega))]; go_keep; done) | (rw [World.cell?_setCell_far _ _ _ _ (by simp), World.cell?_setCell_far _ _ _ _ (by simp)]; rw [hc2 _ _ (by omega), hc1 _ _ (by first | (simp; done) | (simp; omega))]; go_keep))))
    (first | (go_at_call 92; refine (HM.out _ (by repeat (first | exact HB.out | exact Below.refl _ _ | refine below_alloc ?_ _ | refine below_drewN ?_ _ | refine below_drew ?_ | refine below_set ?_ (by first | exact Nat.le_refl _ | omega | (simp; done) | (simp; omega)) _))).mono ?_; rintro e w1 ⟨rfl, hb1⟩; obtain ⟨hc1, hf1⟩ := bcell hb1; have hz1 : w.heap.size + 1 + 1 < w1.heap.size := (by have := hb1.size; simp at this; omega); have HB1 : Hd (Below w.heap.size w w1) := ⟨bel_then (by repeat (first | exact HB.out | exact Below.refl _ _ | refine below_alloc ?_ _ | refine below_drewN ?_ _ | refine below_drew ?_ | refine below_set ?_ (by first | exact Nat.le_refl _ | omega | (simp; done) | (simp; omega)) _)) hb1⟩; clear hb1) | (go_at_call 64; refine (HA.out _ HB1.out).mono ?_; rintro e w2 ⟨A3, c3, rfl, hn2, hb2⟩; obtain ⟨hc2, hf2⟩ := bcell hb2; have hz2 : w.heap.size + 1 + 1 < w2.heap.size := (by have := hb2.size; omega); have HN2 := Hd.mk hn2; have HB : Hd (Below w.heap.size w w2) := ⟨bel_then HB1.out hb2⟩; clear hn2 hb2))
  go_wp2_with fail
  have g0 : w2.cell? ⟨w.heap.size + 1 + 1, 0, none⟩ = some (.bool false) := (hc2 _ _ (by omega)).trans ((hc1 _ _ (by simp)).trans ((blk_third w _ _ [.bool false, .slice none 0 0] 70).cell 0))
  have g1 : w2.cell? ⟨w.heap.size + 1 + 1, 1, none⟩ = some (.slice none 0 0) := (hc2 _ _ (by omega)).trans ((hc1 _ _ (by simp)).trans ((blk_third w _ _ [.bool false, .slice none 0 0] 70).cell 1))
  obtain ⟨k0, k1, k2⟩ := two_set g0 g1 (.bool (decide (x - y < 0))) (.slice A3 (ln (x - y).natAbs) c3)
  refine bodyPost_ret (v := .agg #[.bool (decide (x - y < 0)), .slice A3 (ln (x - y).natAbs) c3]) (by simp [results, Try.results66, go_sem, k0, k1]) rfl ?_
  exact ⟨A3, c3, rfl, (HN2.out.set_ g0 (by intro t; simp) _).set_ k2 (by intro t; simp) _, by repeat (first | exact HB.out | exact Below.refl _ _ | refine below_alloc ?_ _ | refine below_drewN ?_ _ | refine below_drew ?_ | refine below_set ?_ (by first | exact Nat.le_refl _ | omega | (simp; done) | (simp; omega)) _)⟩
end Go.Proofs.Ytcjcpfafalkceaa
